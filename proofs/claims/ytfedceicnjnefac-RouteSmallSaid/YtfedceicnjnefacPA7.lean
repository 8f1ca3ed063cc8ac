/-
  Joined texts, 7 of 10. A part of the claim that the last text states.
-/
import Derived.Test.YtfedceicnjnefacPA6
namespace Go.Proofs.Ytfedceicnjnefac.Fn
open Go.AM Go.AM.Sym Go.Net
set_option maxRecDepth 100000
set_option linter.unusedVariables false
set_option linter.unusedSimpArgs false
set_option maxHeartbeats 4000000
theorem plants_iffR {P:List Int}:PlantsOk P↔(∀p∈P,1≤p∧p≤999999)∧P.Nodup:=by
 constructor
 ·intro h
  refine ⟨fun p hp=>?_, ?_⟩
  ·obtain ⟨i,hi,rfl⟩:=List.mem_iff_getElem.1 hp
   have:=h i hi
   unfold pOk at this
   rw [gt_lt hi] at this
   exact ⟨this.1,this.2.1⟩
  ·unfold List.Nodup
   rw [List.pairwise_iff_getElem]
   intro i j hi hj hij e
   have h2:=(h j hj).2.2
   rw [gt_lt hj] at h2
   exact h2 (List.mem_take_iff_getElem.2 ⟨i,by omega,e⟩)
 ·rintro ⟨h1,h2⟩ i hi
  unfold pOk
  rw [gt_lt hi]
  refine ⟨(h1 _ (List.getElem_mem hi)).1,(h1 _ (List.getElem_mem hi)).2,fun hm=>?_⟩
  obtain ⟨j,hj,e⟩:=List.mem_take_iff_getElem.1 hm
  unfold List.Nodup at h2
  rw [List.pairwise_iff_getElem] at h2
  exact h2 j i (by omega) hi (by omega) e
theorem nodup_sub {m:List Int}:∀{l:List Int},l.Nodup→(∀x∈l,x∈m)→l.length≤m.length:=by
 intro l
 induction l generalizing m with
 | nil=>intro _ _;exact Nat.zero_le _
 | cons a l ih=>
   intro hn hs
   rw [List.nodup_cons] at hn
   have h1:=hs a (by simp)
   have h2:=ih (m:=m.erase a) hn.2 fun x hx=>(List.mem_erase_of_ne (fun e=>hn.1 (by rw [←e];exact hx))).2 (hs x (by simp [hx]))
   rw [List.length_erase_of_mem h1] at h2
   have:=List.length_pos_of_mem h1
   simp only [List.length_cons]
   omega
theorem isway_sub {L:List Leg}:∀{w:List (Leg×Int)} {p t q v:Int},IsWay L p t w q v→∀x∈w,x.1∈L
 | [],_,_,_,_,_,x,hx=>by cases hx
 | (l,a)::w,_,_,_,_,h,x,hx=>by
   rcases List.mem_cons.1 hx with rfl | hx
   ·exact h.1
   ·exact isway_sub h.2.2.2.2 x hx
theorem way_short {P:List Int} {L:List Leg} {p t q:Int} (hn:NetOk 50 P L (posN P)) (hp:p∈P):∀(j:Nat) (u:Int),Go.Net.Way L j p t q u→∃j' u',j'<P.length∧u'≤u∧Go.Net.Way L j' p t q u':=fun j=>by
 induction j using Nat.strongRecOn with
 | ind j ih=>
   intro u h
   by_cases hs:∃i v,i<j∧v≤u∧Go.Net.Way L i p t q v
   ·obtain ⟨i,v,h1,h2,h3⟩:=hs
    obtain ⟨j',u',g1,g2,g3⟩:=ih i h1 v h3
    exact ⟨j',u',g1,by omega,g3⟩
   ·obtain ⟨w,hwl,hw⟩:=h.isWay
    have hnd:=hw.nodup hn.fine fun i v hi hv=>by
     rcases Nat.lt_or_ge i j with h1 | h1
     ·exact absurd ⟨i,v,h1,hv,hi⟩ hs
     ·omega
    have:=nodup_sub (m:=P) hnd fun x hx=>by
     rcases List.mem_cons.1 hx with rfl | hx
     ·exact hp
     ·obtain ⟨y,hy,rfl⟩:=List.mem_map.1 hx
      exact hn.dst _ (isway_sub hw y hy)
    simp at this
    exact ⟨j,u,by omega,Int.le_refl _,h⟩
theorem early_min {P:List Int} {L:List Leg} {p t lim q:Int} (hn:NetOk 50 P L (posN P)) (hp:p∈P) (ht:0≤t) (hl:t≤lim) (hq:q∈P) :
  IsMin (fun u=>(∃j,Go.Net.Way L j p t q u)∧u≤lim) ((arrK P.length (posN P) lim L p t P.length).getD (posN P q) (-1)):=by
 have hn':NetOk P.length P L (posN P):=⟨hn.fine,hn.frm,hn.dst,hn.inj,fun a ha=>List.idxOf_lt_length_of_mem ha⟩
 rcases arrK_min hn' hp ht hl P.length q hq with ⟨e,h⟩ | ⟨⟨⟨j,hj,hw⟩,hl'⟩,h⟩
 ·refine .inl ⟨e,fun u ⟨⟨j,hw⟩,hu⟩=>?_⟩
  obtain ⟨j',u',g1,g2,g3⟩:=way_short hn hp j u hw
  exact h u' ⟨⟨j',by omega,g3⟩,by omega⟩
 ·refine .inr ⟨⟨⟨j,hw⟩,hl'⟩,fun u ⟨⟨i,hwi⟩,hu⟩=>?_⟩
  obtain ⟨j',u',g1,g2,g3⟩:=way_short hn hp i u hwi
  have:=h u' ⟨⟨j',by omega,g3⟩,by omega⟩
  omega
theorem early_arr {P:List Int} {L:List Leg} {p t:Int} (hn:NetOk 50 P L (posN P)) (hp:p∈P) (ht:0≤t):arrL P L p t (arrK P.length (posN P) (t+86400) L p t P.length):=
 ⟨arrK_len,fun q hq=>early_min hn hp ht (by omega) hq⟩
theorem in_ok [OB] {mp:Bool} {lim:Nat} {n a b:Int} {H:Heap} {Q:Value→Heap→Prop}:CallR E mp lim 56 [.int .i64 n,.int .i64 a,.int .i64 b] H Q=Q (.bool (decide (a≤n∧n≤b))) H:=by
 refine pc (by decide) e56 rfl rfl ?_
 rw [b56,c56]
 by_cases h1:a≤n
 ·simp only [n56,r56,eq_true h1,SB,Nat.reduceLT,callee,aOp,ne_eq,Nat.reduceEqDiff,aBin,aUn,if_true,if_false,reduceCtorEq,frame0,place,notTuple,Nat.reduceAdd,Nat.reduceLeDiff,resVal,dite_true,dite_false,Int.reduceEq,Int.reduceLT,Int.reduceLE]
 ·simp only [n56,r56,eq_false h1,SB,Nat.reduceLT,callee,aOp,ne_eq,Nat.reduceEqDiff,aBin,aUn,if_true,if_false,reduceCtorEq,frame0,place,notTuple,Nat.reduceAdd,Nat.reduceLeDiff,resVal,dite_true,dite_false,Int.reduceEq,Int.reduceLT,Int.reduceLE]
theorem rright_ok [OB] {mp:Bool} {lim:Nat} {l:Leg} {H:Heap} {Q:Value→Heap→Prop} (hd:By l):CallR E mp lim 58 [.agg (encL l).toArray] H Q=Q (.bool (decide (Fine l))) H:=by
 refine pc (by decide) e58 rfl rfl ?_
 rw [b58,c58]
 have no:¬Fine l→decide (Fine l)=false:=fun h=>decide_eq_false h
 by_cases h1:1≤l.id∧l.id≤999999
 case neg=>simp only [n58,r58,encL_len,encL_0,encL_1,encL_2,encL_3,encL_4,encL_5,encL_6,encL_7,take_all,in_ok,decide_eq_false h1,no (fun h=>h1 (by unfold Fine at h;omega)),SB,Nat.reduceLT,callee,aOp,ne_eq,Nat.reduceEqDiff,aBin,aUn,if_true,if_false,reduceCtorEq,frame0,place,notTuple,Nat.reduceAdd,Nat.reduceLeDiff,resVal,dite_true,dite_false,Int.reduceEq,Int.reduceLT,Int.reduceLE]
 by_cases h2:1≤l.frm∧l.frm≤999999
 case neg=>simp only [n58,r58,encL_len,encL_0,encL_1,encL_2,encL_3,encL_4,encL_5,encL_6,encL_7,take_all,in_ok,decide_eq_true h1,decide_eq_false h2,no (fun h=>h2 (by unfold Fine at h;omega)),SB,Nat.reduceLT,callee,aOp,ne_eq,Nat.reduceEqDiff,aBin,aUn,if_true,if_false,reduceCtorEq,frame0,place,notTuple,Nat.reduceAdd,Nat.reduceLeDiff,resVal,dite_true,dite_false,Int.reduceEq,Int.reduceLT,Int.reduceLE]
 by_cases h3:1≤l.dst∧l.dst≤999999
 case neg=>simp only [n58,r58,encL_len,encL_0,encL_1,encL_2,encL_3,encL_4,encL_5,encL_6,encL_7,take_all,in_ok,decide_eq_true h1,decide_eq_true h2,decide_eq_false h3,no (fun h=>h3 (by unfold Fine at h;omega)),SB,Nat.reduceLT,callee,aOp,ne_eq,Nat.reduceEqDiff,aBin,aUn,if_true,if_false,reduceCtorEq,frame0,place,notTuple,Nat.reduceAdd,Nat.reduceLeDiff,resVal,dite_true,dite_false,Int.reduceEq,Int.reduceLT,Int.reduceLE]
 by_cases h4:l.frm=l.dst
 ·simp only [n58,r58,encL_len,encL_0,encL_1,encL_2,encL_3,encL_4,encL_5,encL_6,encL_7,take_all,in_ok,decide_eq_true h1,decide_eq_true h2,decide_eq_true h3,eq_true h4,no (fun h=>by unfold Fine at h;omega),SB,Nat.reduceLT,callee,aOp,ne_eq,Nat.reduceEqDiff,aBin,aUn,if_true,if_false,reduceCtorEq,frame0,place,notTuple,Nat.reduceAdd,Nat.reduceLeDiff,resVal,dite_true,dite_false,Int.reduceEq,Int.reduceLT,Int.reduceLE]
 by_cases h5:0≤l.dep∧l.dep≤1439
 case neg=>simp only [n58,r58,encL_len,encL_0,encL_1,encL_2,encL_3,encL_4,encL_5,encL_6,encL_7,take_all,in_ok,decide_eq_true h1,decide_eq_true h2,decide_eq_true h3,eq_false h4,decide_eq_false h5,no (fun h=>h5 (by unfold Fine at h;omega)),SB,Nat.reduceLT,callee,aOp,ne_eq,Nat.reduceEqDiff,aBin,aUn,if_true,if_false,reduceCtorEq,frame0,place,notTuple,Nat.reduceAdd,Nat.reduceLeDiff,resVal,dite_true,dite_false,Int.reduceEq,Int.reduceLT,Int.reduceLE]
 by_cases h6:1≤l.mins∧l.mins≤20160
 case neg=>simp only [n58,r58,encL_len,encL_0,encL_1,encL_2,encL_3,encL_4,encL_5,encL_6,encL_7,take_all,in_ok,decide_eq_true h1,decide_eq_true h2,decide_eq_true h3,eq_false h4,decide_eq_true h5,decide_eq_false h6,no (fun h=>h6 (by unfold Fine at h;omega)),SB,Nat.reduceLT,callee,aOp,ne_eq,Nat.reduceEqDiff,aBin,aUn,if_true,if_false,reduceCtorEq,frame0,place,notTuple,Nat.reduceAdd,Nat.reduceLeDiff,resVal,dite_true,dite_false,Int.reduceEq,Int.reduceLT,Int.reduceLE]
 by_cases h7:0≤l.cut∧l.cut≤10080
 case neg=>simp only [n58,r58,encL_len,encL_0,encL_1,encL_2,encL_3,encL_4,encL_5,encL_6,encL_7,take_all,in_ok,decide_eq_true h1,decide_eq_true h2,decide_eq_true h3,eq_false h4,decide_eq_true h5,decide_eq_true h6,decide_eq_false h7,no (fun h=>h7 (by unfold Fine at h;omega)),SB,Nat.reduceLT,callee,aOp,ne_eq,Nat.reduceEqDiff,aBin,aUn,if_true,if_false,reduceCtorEq,frame0,place,notTuple,Nat.reduceAdd,Nat.reduceLeDiff,resVal,dite_true,dite_false,Int.reduceEq,Int.reduceLT,Int.reduceLE]
 by_cases h8:0≤l.grams∧l.grams≤1000000000
 case neg=>simp only [n58,r58,encL_len,encL_0,encL_1,encL_2,encL_3,encL_4,encL_5,encL_6,encL_7,take_all,in_ok,decide_eq_true h1,decide_eq_true h2,decide_eq_true h3,eq_false h4,decide_eq_true h5,decide_eq_true h6,decide_eq_true h7,decide_eq_false h8,no (fun h=>h8 (by unfold Fine at h;omega)),SB,Nat.reduceLT,callee,aOp,ne_eq,Nat.reduceEqDiff,aBin,aUn,if_true,if_false,reduceCtorEq,frame0,place,notTuple,Nat.reduceAdd,Nat.reduceLeDiff,resVal,dite_true,dite_false,Int.reduceEq,Int.reduceLT,Int.reduceLE]
 by_cases h9:1≤l.days
 case neg=>simp only [n58,r58,encL_len,encL_0,encL_1,encL_2,encL_3,encL_4,encL_5,encL_6,encL_7,take_all,in_ok,decide_eq_true h1,decide_eq_true h2,decide_eq_true h3,eq_false h4,decide_eq_true h5,decide_eq_true h6,decide_eq_true h7,decide_eq_true h8,eq_false h9,no (fun h=>h9 (by unfold Fine at h;omega)),SB,Nat.reduceLT,callee,aOp,ne_eq,Nat.reduceEqDiff,aBin,aUn,if_true,if_false,reduceCtorEq,frame0,place,notTuple,Nat.reduceAdd,Nat.reduceLeDiff,resVal,dite_true,dite_false,Int.reduceEq,Int.reduceLT,Int.reduceLE]
 simp only [n58,r58,encL_len,encL_0,encL_1,encL_2,encL_3,encL_4,encL_5,encL_6,encL_7,take_all,in_ok,decide_eq_true h1,decide_eq_true h2,decide_eq_true h3,eq_false h4,decide_eq_true h5,decide_eq_true h6,decide_eq_true h7,decide_eq_true h8,eq_true h9,SB,Nat.reduceLT,callee,aOp,ne_eq,Nat.reduceEqDiff,aBin,aUn,if_true,if_false,reduceCtorEq,frame0,place,notTuple,Nat.reduceAdd,Nat.reduceLeDiff,resVal,dite_true,dite_false,Int.reduceEq,Int.reduceLT,Int.reduceLE]
 congr 2
 unfold Fine
 exact propext (by omega)
theorem has_ok [OB] {mp:Bool} {lim c:Nat} {p:Option Addr} {P:List Int} {a:Int} {H:Heap} {Q:Value→Heap→Prop} (hs:Sl H encI 1 p P) (hn:P.length<2 ^ 62):CallR E mp lim 57 [.slice p P.length c,.int .i64 a] H Q=Q (.int .i64 (P.count a:Int)) H:=by
 refine pc (by decide) e57 rfl rfl ?_
 rw [b57,c57]
 simp only [n57,r57,SB,Nat.reduceLT,callee,aOp,ne_eq,Nat.reduceEqDiff,aBin,aUn,if_true,if_false,reduceCtorEq,frame0,place,notTuple,Nat.reduceAdd,Nat.reduceLeDiff,resVal,dite_true,dite_false,Int.reduceEq,Int.reduceLT,Int.reduceLE]
 refine Ret_rounds (fun j=>P.length-j) (fun j fr G=>j≤P.length∧fr 0=.slice p P.length c∧fr 1=.int .i64 a∧fr 5=.int .i64 ((P.take j).count a:Int)∧fr 6=.int .i64 (j:Int)∧Ext H G) 0 ⟨Nat.zero_le _,(by simp only [FB,Nat.reduceEqDiff]),(by simp only [FB,Nat.reduceEqDiff]),by rfl,by rfl,Ext.refl.app⟩ ?_
 intro j fr G ⟨hj,f0,f1,f5,f6,hE⟩ hN
 rw [Ret_code l57_1.eq_1]
 refine Ret_pad ?_
 by_cases hlt:j<P.length
 case neg=>
  obtain rfl:j=P.length:=by omega
  rw [List.take_length] at f5
  simp only [n57,r57,f0,f1,f5,f6,hlt,SB,Nat.reduceLT,callee,aOp,ne_eq,Nat.reduceEqDiff,aBin,aUn,if_true,if_false,reduceCtorEq,frame0,place,notTuple,Nat.reduceAdd,Nat.reduceLeDiff,resVal,dite_true,dite_false,Int.reduceEq,Int.reduceLT,Int.reduceLE]
 have l1:=fun X=>((hE.sl hs).app X).loadCell0 encI_len hlt (by decide)
 simp only [encI,List.getElem?_cons_zero] at l1
 have x1:=fun c (kk:IntKind) (H1:Heap)=>(hE.sl hs).idx (c:=c) (k:=kk) (H1:=H1) hlt
 have hw1:IntKind.i64.wrap ((j:Int)+1)=((j+1:Nat):Int):=wrap_nat (by omega)
 have hc:(P.take j).count a≤P.length:=Nat.le_trans List.count_le_length (by rw [List.length_take];omega)
 have hst:(P.take (j+1)).count a=(P.take j).count a+if gt P j=a then 1 else 0:=by
  rw [take_snoc hlt,List.count_append,List.count_cons,List.count_nil];simp
 have hw2:IntKind.i64.wrap (((P.take j).count a:Int)+1)=(((P.take j).count a+1:Nat):Int):=wrap_nat (by omega)
 by_cases he:gt P j=a
 ·rw [if_pos he] at hst
  simp only [n57,r57,f0,f1,f5,f6,hlt,l1,x1,hw1,hw2,eq_true he,SB,Nat.reduceLT,callee,aOp,ne_eq,Nat.reduceEqDiff,aBin,aUn,if_true,if_false,reduceCtorEq,frame0,place,notTuple,Nat.reduceAdd,Nat.reduceLeDiff,resVal,dite_true,dite_false,Int.reduceEq,Int.reduceLT,Int.reduceLE]
  exact hN (j+1) _ _ ⟨by omega,(by simp only [f0,FB,Nat.reduceEqDiff]),(by simp only [f1,FB,Nat.reduceEqDiff]),by rw [hst];exact (by simp only [FB,Nat.reduceEqDiff]),(by simp only [FB,Nat.reduceEqDiff]),hE.app⟩ (by omega)
 ·rw [if_neg he] at hst
  replace hst:(P.take (j+1)).count a=(P.take j).count a:=hst
  simp only [n57,r57,f0,f1,f5,f6,hlt,l1,x1,hw1,eq_false he,SB,Nat.reduceLT,callee,aOp,ne_eq,Nat.reduceEqDiff,aBin,aUn,if_true,if_false,reduceCtorEq,frame0,place,notTuple,Nat.reduceAdd,Nat.reduceLeDiff,resVal,dite_true,dite_false,Int.reduceEq,Int.reduceLT,Int.reduceLE]
  exact hN (j+1) _ _ ⟨by omega,(by simp only [f0,FB,Nat.reduceEqDiff]),(by simp only [f1,FB,Nat.reduceEqDiff]),by rw [hst];exact (by simp only [f5,FB,Nat.reduceEqDiff]),(by simp only [FB,Nat.reduceEqDiff]),hE.app⟩ (by omega)
theorem plants_count {P:List Int}:PlantsOk P↔∀i,i<P.length→(1≤gt P i∧gt P i≤999999)∧P.count (gt P i)≤1:=by
 rw [plants_iffR,List.nodup_iff_count]
 constructor
 ·rintro ⟨h1,h2⟩ i hi
  exact ⟨h1 _ (gt_mem hi),h2 _⟩
 ·intro h
  refine ⟨fun p hp=>?_,fun a=>?_⟩
  ·obtain ⟨i,hi,rfl⟩:=List.mem_iff_getElem.1 hp
   rw [←gt_lt hi];exact (h i hi).1
  ·by_cases ha:a∈P
   ·obtain ⟨i,hi,rfl⟩:=List.mem_iff_getElem.1 ha
    rw [←gt_lt hi];exact (h i hi).2
   ·rw [List.count_eq_zero_of_not_mem ha];omega
theorem rvalid_inner [OB] {H G:Heap} {i R5:Nat} {pp pl:Option Addr} {P:List Int} {L:List Leg} {cp cl:Nat} {fr:Nat→Value} {K:List AItem} {Z:Value→Heap→Prop}
  (hn:NetIn G pp pl P L) (hi:i<L.length) (hB:hget G H.length=.cells false (netV pp P.length cp pl L.length cl)) (h5:hget G R5=.cells false (encL (gt L i)))
  (f1:fr 1=.pointer (some ⟨H.length,0,none⟩)) (f4:fr 4=.int .i64 (i:Int)) (f5:fr 5=.pointer (some ⟨R5,0,none⟩)) (f6:fr 6=.int .i64 0)
  (hbad:(gt L i).id∈(L.take i).map (·.id)→Z (.int .i64 321) (G++[]))
  (hR:(gt L i).id∉(L.take i).map (·.id)→∀fr',fr' 1=fr 1→fr' 4=fr 4→Ret E a46 H.length K fr' (G++[]) Z) :
  Ret E a46 H.length (.code (.loop l46_1)::.inBlock 4::K) fr G Z:=by
 have hBX:=fun X=>(Ext.refl.app (X:=X)).cells hB
 have h5X:=fun X=>(Ext.refl.app (X:=X)).cells h5
 refine Ret_rounds (fun j=>i-j) (fun j fr' G'=>j≤i∧fr' 1=.pointer (some ⟨H.length,0,none⟩)∧fr' 4=.int .i64 (i:Int)∧fr' 5=.pointer (some ⟨R5,0,none⟩)∧fr' 6=.int .i64 (j:Int)∧G'=G++[]∧∀k,k<j→(gt L k).id≠(gt L i).id) 0 ⟨Nat.zero_le _,f1,f4,f5,f6,by simp,fun k hk=>by omega⟩ ?_
 rintro j fr' G' ⟨hj,g1,g4,g5,g6,rfl,hall⟩ hN
 rw [Ret_code l46_1.eq_1]
 by_cases hlt:j<i
 case neg=>
  obtain rfl:j=i:=by omega
  simp only [n46,r46,g1,g4,g5,g6,hlt,SB,Nat.reduceLT,callee,aOp,ne_eq,Nat.reduceEqDiff,aBin,aUn,if_true,if_false,reduceCtorEq,frame0,place,notTuple,Nat.reduceAdd,Nat.reduceLeDiff,resVal,dite_true,dite_false,Int.reduceEq,Int.reduceLT,Int.reduceLE]
  refine hR (fun hm=>?_) _ (by rw [f1];exact (by simp only [g1,FB,Nat.reduceEqDiff])) (by rw [f4];exact (by simp only [g4,FB,Nat.reduceEqDiff]))
  obtain ⟨l,hl,e⟩:=List.mem_map.1 hm
  obtain ⟨k,hk,rfl⟩:=List.mem_take_iff_getElem.1 hl
  exact hall k (by omega) (by rw [gt_lt (by omega)];exact e)
 have hjl:j<L.length:=by omega
 have ld:=fun X=>(hn.sl.app X).loadCell encL_len hjl (j:=0) (by decide)
 rw [encL_0] at ld
 have ix:=fun c (kk:IntKind) (H1:Heap)=>hn.sl.idx (c:=c) (k:=kk) (H1:=H1) hjl
 have hw1:IntKind.i64.wrap ((j:Int)+1)=((j+1:Nat):Int):=wrap_nat (by have:=hn.nl;omega)
 by_cases he:(gt L j).id=(gt L i).id
 ·simp only [n46,r46,g1,g4,g5,g6,hlt,hBX,h5X,ld,ix,hw1,netV_len,netV_0,netV_1,encL_len,encL_0,encL_1,encL_2,encL_3,encL_4,encL_5,encL_6,encL_7,take_all,eq_true he,SB,Nat.reduceLT,callee,aOp,ne_eq,Nat.reduceEqDiff,aBin,aUn,if_true,if_false,reduceCtorEq,frame0,place,notTuple,Nat.reduceAdd,Nat.reduceLeDiff,resVal,dite_true,dite_false,Int.reduceEq,Int.reduceLT,Int.reduceLE]
  rw [List.append_nil] at hbad
  rw [List.append_nil]
  refine hbad (List.mem_map.2 ⟨gt L j, ?_,he⟩)
  rw [gt_lt hjl]
  exact List.mem_take_iff_getElem.2 ⟨j,by omega,rfl⟩
 ·simp only [n46,r46,g1,g4,g5,g6,hlt,hBX,h5X,ld,ix,hw1,netV_len,netV_0,netV_1,encL_len,encL_0,encL_1,encL_2,encL_3,encL_4,encL_5,encL_6,encL_7,take_all,eq_false he,SB,Nat.reduceLT,callee,aOp,ne_eq,Nat.reduceEqDiff,aBin,aUn,if_true,if_false,reduceCtorEq,frame0,place,notTuple,Nat.reduceAdd,Nat.reduceLeDiff,resVal,dite_true,dite_false,Int.reduceEq,Int.reduceLT,Int.reduceLE]
  exact hN (j+1) _ _ ⟨by omega,(by simp only [g1,FB,Nat.reduceEqDiff]),(by simp only [g4,FB,Nat.reduceEqDiff]),(by simp only [g5,FB,Nat.reduceEqDiff]),(by simp only [FB,Nat.reduceEqDiff]),rfl,fun k hk=>by
   rcases Nat.lt_or_ge k j with h | h
   ·exact hall k h
   ·obtain rfl:k=j:=by omega
    exact he⟩ (by omega)
theorem rvalid_ok [OB] {mp:Bool} {lim:Nat} {pp pl:Option Addr} {P:List Int} {L:List Leg} {cp cl:Nat} {H:Heap} {Q:Value→Heap→Prop} (hn:NetIn H pp pl P L) :
  CallR E mp lim 46 [.agg (netV pp P.length cp pl L.length cl).toArray] H Q=Q (.int .i64 (validN P L)) H:=by
 refine pc (by decide) e46 rfl rfl ?_
 rw [b46,c46]
 by_cases h50:50<(P.length:Int)
 ·simp only [n46,r46,netV_len,netV_0,netV_1,eq_true h50,SB,Nat.reduceLT,callee,aOp,ne_eq,Nat.reduceEqDiff,aBin,aUn,if_true,if_false,reduceCtorEq,frame0,place,notTuple,Nat.reduceAdd,Nat.reduceLeDiff,resVal,dite_true,dite_false,Int.reduceEq,Int.reduceLT,Int.reduceLE]
  rw [validN,if_pos (by omega)]
 by_cases h200:200<(L.length:Int)
 ·simp only [n46,r46,netV_len,netV_0,netV_1,eq_false h50,eq_true h200,SB,Nat.reduceLT,callee,aOp,ne_eq,Nat.reduceEqDiff,aBin,aUn,if_true,if_false,reduceCtorEq,frame0,place,notTuple,Nat.reduceAdd,Nat.reduceLeDiff,resVal,dite_true,dite_false,Int.reduceEq,Int.reduceLT,Int.reduceLE]
  rw [validN,if_pos (by omega)]
 simp only [n46,r46,netV_len,netV_0,netV_1,eq_false h50,eq_false h200,SB,Nat.reduceLT,callee,aOp,ne_eq,Nat.reduceEqDiff,aBin,aUn,if_true,if_false,reduceCtorEq,frame0,place,notTuple,Nat.reduceAdd,Nat.reduceLeDiff,resVal,dite_true,dite_false,Int.reduceEq,Int.reduceLT,Int.reduceLE]
 have hv:validN P L=if ¬PlantsOk P then 320 else if ¬LegsOk P L then 321 else 0:=by rw [validN,if_neg (by omega)]
 refine Ret_rounds (fun i=>P.length-i) (fun i fr G=>i≤P.length∧fr 1=.pointer (some ⟨H.length,0,none⟩)∧fr 3=.int .i64 (i:Int)∧Ext H G∧hget G H.length=.cells false (netV pp P.length cp pl L.length cl)∧∀j,j<i→(1≤gt P j∧gt P j≤999999)∧P.count (gt P j)≤1) 0
  ⟨Nat.zero_le _,(by simp only [FB,Nat.reduceEqDiff]),by rfl,Ext.refl.app,hget_new0,fun j hj=>by omega⟩ ?_
 intro i fr G ⟨hi,f1,f3,hE,hB,hall⟩ hN
 rw [Ret_code l46_3.eq_1]
 refine Ret_pad ?_
 have hBX:=fun X=>(Ext.refl.app (X:=X)).cells hB
 have hnG:=hn.ext hE
 by_cases hlt:i<P.length
 case pos=>
  have ld:=fun X=>(hnG.sp.app X).loadCell0 encI_len hlt (by decide)
  simp only [encI,List.getElem?_cons_zero] at ld
  have ix:=fun c (kk:IntKind) (H1:Heap)=>hnG.sp.idx (c:=c) (k:=kk) (H1:=H1) hlt
  have hw1:IntKind.i64.wrap ((i:Int)+1)=((i+1:Nat):Int):=wrap_nat (by omega)
  have hhas:=fun X (mp:Bool) (lim:Nat) (Q:Value→Heap→Prop)=>has_ok (mp:=mp) (lim:=lim) (c:=cp) (a:=gt P i) (Q:=Q) (hnG.sp.app X) (by omega)
  have bad:¬((1≤gt P i∧gt P i≤999999)∧P.count (gt P i)≤1)→validN P L=320:=fun h=>by
   rw [hv,if_pos fun hh=>h (plants_count.1 hh i hlt)]
  by_cases h1:1≤gt P i∧gt P i≤999999
  case neg=>
   simp only [n46,r46,f1,f3,hBX,netV_len,netV_0,netV_1,hlt,ld,ix,in_ok,decide_eq_false h1,SB,Nat.reduceLT,callee,aOp,ne_eq,Nat.reduceEqDiff,aBin,aUn,if_true,if_false,reduceCtorEq,frame0,place,notTuple,Nat.reduceAdd,Nat.reduceLeDiff,resVal,dite_true,dite_false,Int.reduceEq,Int.reduceLT,Int.reduceLE]
   rw [bad fun h=>h1 h.1]
  by_cases h2:1<(P.count (gt P i):Int)
  ·simp only [n46,r46,f1,f3,hBX,netV_len,netV_0,netV_1,hlt,ld,ix,in_ok,decide_eq_true h1,hhas,eq_true h2,SB,Nat.reduceLT,callee,aOp,ne_eq,Nat.reduceEqDiff,aBin,aUn,if_true,if_false,reduceCtorEq,frame0,place,notTuple,Nat.reduceAdd,Nat.reduceLeDiff,resVal,dite_true,dite_false,Int.reduceEq,Int.reduceLT,Int.reduceLE]
   rw [bad fun h=>by omega]
  ·simp only [n46,r46,f1,f3,hBX,netV_len,netV_0,netV_1,hlt,ld,ix,in_ok,decide_eq_true h1,hhas,eq_false h2,hw1,SB,Nat.reduceLT,callee,aOp,ne_eq,Nat.reduceEqDiff,aBin,aUn,if_true,if_false,reduceCtorEq,frame0,place,notTuple,Nat.reduceAdd,Nat.reduceLeDiff,resVal,dite_true,dite_false,Int.reduceEq,Int.reduceLT,Int.reduceLE]
   exact hN (i+1) _ _ ⟨by omega,(by simp only [f1,FB,Nat.reduceEqDiff]),(by simp only [FB,Nat.reduceEqDiff]),hE.app,(Ext.refl.app).cells hB,fun j hj=>by
    rcases Nat.lt_or_ge j i with h | h
    ·exact hall j h
    ·obtain rfl:j=i:=by omega
     exact ⟨h1,by omega⟩⟩ (by omega)
 obtain rfl:i=P.length:=by omega
 have hP:PlantsOk P:=plants_count.2 hall
 rw [if_neg (by simpa using hP)] at hv
 simp only [n46,r46,f1,f3,hBX,netV_len,netV_0,netV_1,hlt,SB,Nat.reduceLT,callee,aOp,ne_eq,Nat.reduceEqDiff,aBin,aUn,if_true,if_false,reduceCtorEq,frame0,place,notTuple,Nat.reduceAdd,Nat.reduceLeDiff,resVal,dite_true,dite_false,Int.reduceEq,Int.reduceLT,Int.reduceLE]
 refine Ret_rounds (fun i=>L.length-i) (fun i fr2 G2=>i≤L.length∧fr2 1=.pointer (some ⟨H.length,0,none⟩)∧fr2 4=.int .i64 (i:Int)∧Ext H G2∧hget G2 H.length=.cells false (netV pp P.length cp pl L.length cl)∧∀j,j<i→lOk P L j) 0
  ⟨Nat.zero_le _,(by simp only [f1,FB,Nat.reduceEqDiff]),by rfl,hE.app,(Ext.refl.app).cells hB,fun j hj=>by omega⟩ ?_
 intro i fr2 G2 ⟨hi2,g1,g4,hE2,hB2,hall2⟩ hM
 rw [Ret_code l46_2.eq_1]
 refine Ret_pad ?_
 have hB2X:=fun X=>(Ext.refl.app (X:=X)).cells hB2
 have hn2:=hn.ext hE2
 have hl2:=hE2.len
 by_cases hlt2:i<L.length
 case neg=>
  obtain rfl:i=L.length:=by omega
  rw [if_neg (show ¬¬LegsOk P L from fun h=>h hall2)] at hv
  simp only [n46,r46,g1,g4,hB2X,netV_len,netV_0,netV_1,hlt2,hv,SB,Nat.reduceLT,callee,aOp,ne_eq,Nat.reduceEqDiff,aBin,aUn,if_true,if_false,reduceCtorEq,frame0,place,notTuple,Nat.reduceAdd,Nat.reduceLeDiff,resVal,dite_true,dite_false,Int.reduceEq,Int.reduceLT,Int.reduceLE]
 have ld:=fun X=>(hn2.sl.app X).loadCells encL_len hlt2
 have ix:=fun c (kk:IntKind) (H1:Heap)=>hn2.sl.idx (c:=c) (k:=kk) (H1:=H1) hlt2
 have hw1:IntKind.i64.wrap ((i:Int)+1)=((i+1:Nat):Int):=wrap_nat (by omega)
 have hby:=hn.bys _ (gt_mem hlt2)
 have hrt:=fun (H:Heap) (mp:Bool) (lim:Nat) (Q:Value→Heap→Prop)=>rright_ok (mp:=mp) (lim:=lim) (H:=H) (Q:=Q) hby
 have hhas:=fun X (a:Int) (mp:Bool) (lim:Nat) (Q:Value→Heap→Prop)=>has_ok (mp:=mp) (lim:=lim) (c:=cp) (a:=a) (Q:=Q) (hn2.sp.app X) (by omega)
 have bad:¬lOk P L i→validN P L=321:=fun h=>by rw [hv,if_pos fun hh=>h (hh i hlt2)]
 have cnt:∀a:Int,(P.count a:Int)=0↔a∉P:=fun a=>by rw [←List.count_eq_zero];omega
 by_cases h1:Fine (gt L i)
 case neg=>
  simp only [n46,r46,g1,g4,hB2X,netV_len,netV_0,netV_1,encL_len,encL_0,encL_1,encL_2,encL_3,encL_4,encL_5,encL_6,encL_7,take_all,hlt2,ld,ix,setAll_full,hl2,hrt,hhas,decide_eq_false h1,SB,Nat.reduceLT,callee,aOp,ne_eq,Nat.reduceEqDiff,aBin,aUn,if_true,if_false,reduceCtorEq,frame0,place,notTuple,Nat.reduceAdd,Nat.reduceLeDiff,resVal,dite_true,dite_false,Int.reduceEq,Int.reduceLT,Int.reduceLE]
  rw [bad fun h=>h1 h.1]
 by_cases h2:(gt L i).frm∈P
 case neg=>
  simp only [n46,r46,g1,g4,hB2X,netV_len,netV_0,netV_1,encL_len,encL_0,encL_1,encL_2,encL_3,encL_4,encL_5,encL_6,encL_7,take_all,hlt2,ld,ix,setAll_full,hl2,hrt,hhas,decide_eq_true h1,eq_true ((cnt _).2 h2),SB,Nat.reduceLT,callee,aOp,ne_eq,Nat.reduceEqDiff,aBin,aUn,if_true,if_false,reduceCtorEq,frame0,place,notTuple,Nat.reduceAdd,Nat.reduceLeDiff,resVal,dite_true,dite_false,Int.reduceEq,Int.reduceLT,Int.reduceLE]
  rw [bad fun h=>h2 h.2.2.1]
 by_cases h3:(gt L i).dst∈P
 case neg=>
  simp only [n46,r46,g1,g4,hB2X,netV_len,netV_0,netV_1,encL_len,encL_0,encL_1,encL_2,encL_3,encL_4,encL_5,encL_6,encL_7,take_all,hlt2,ld,ix,setAll_full,hl2,hrt,hhas,decide_eq_true h1,eq_false (fun h=>(cnt _).1 h h2),eq_true ((cnt _).2 h3),SB,Nat.reduceLT,callee,aOp,ne_eq,Nat.reduceEqDiff,aBin,aUn,if_true,if_false,reduceCtorEq,frame0,place,notTuple,Nat.reduceAdd,Nat.reduceLeDiff,resVal,dite_true,dite_false,Int.reduceEq,Int.reduceLT,Int.reduceLE]
  rw [bad fun h=>h3 h.2.2.2]
 simp only [n46,r46,g1,g4,hB2X,netV_len,netV_0,netV_1,encL_len,encL_0,encL_1,encL_2,encL_3,encL_4,encL_5,encL_6,encL_7,take_all,hlt2,ld,ix,setAll_full,hl2,hrt,hhas,decide_eq_true h1,eq_false (fun h=>(cnt _).1 h h2),eq_false (fun h=>(cnt _).1 h h3),SB,Nat.reduceLT,callee,aOp,ne_eq,Nat.reduceEqDiff,aBin,aUn,if_true,if_false,reduceCtorEq,frame0,place,notTuple,Nat.reduceAdd,Nat.reduceLeDiff,resVal,dite_true,dite_false,Int.reduceEq,Int.reduceLT,Int.reduceLE]
 refine rvalid_inner (R5:=G2.length) (cp:=cp) (cl:=cl) (hn2.app _) hlt2 ((Ext.refl.app).cells hB2) hget_new0 (by simp only [g1,FB,Nat.reduceEqDiff]) (by simp only [g4,FB,Nat.reduceEqDiff]) (by simp only [FB,Nat.reduceEqDiff]) (by simp only [FB,Nat.reduceEqDiff]) (fun hm=>?_) (fun hm fr3 k1 k4=>?_)
 ·rw [bad fun h=>h.2.1 hm]
 ·replace k1:fr3 1=.pointer (some ⟨H.length,0,none⟩):=k1.trans (by simp only [g1,FB,Nat.reduceEqDiff])
  replace k4:fr3 4=.int .i64 (i:Int):=k4.trans (by simp only [g4,FB,Nat.reduceEqDiff])
  simp only [n46,r46,k1,k4,hw1,SB,Nat.reduceLT,callee,aOp,ne_eq,Nat.reduceEqDiff,aBin,aUn,if_true,if_false,reduceCtorEq,frame0,place,notTuple,Nat.reduceAdd,Nat.reduceLeDiff,resVal,dite_true,dite_false,Int.reduceEq,Int.reduceLT,Int.reduceLE]
  exact hM (i+1) _ _ ⟨by omega,(by simp only [k1,FB,Nat.reduceEqDiff]),(by simp only [FB,Nat.reduceEqDiff]),hE2.app,(Ext.refl.app).cells hB2,fun j hj=>by
   rcases Nat.lt_or_ge j i with h | h
   ·exact hall2 j h
   ·obtain rfl:j=i:=by omega
    exact ⟨h1,hm,h2,h3⟩⟩ (by omega)
def onDay (l:Leg) (d:Int):Option (Int×Int):=if 0≤d∧d<730485 then depOn l d.toNat else none
theorem rfind_ok [OB] {mp:Bool} {lim:Nat} {pp pl:Option Addr} {P:List Int} {L:List Leg} {cp cl:Nat} {a:Int} {H:Heap} {Q:Value→Heap→Prop} (hn:NetIn H pp pl P L) :
  CallR E mp lim 39 [.agg (netV pp P.length cp pl L.length cl).toArray,.int .i64 a] H Q=Q (match L.find? (fun l=>l.id=a) with | some l=>.tuple #[.agg (encL l).toArray,.bool true] | none=>.tuple #[.agg #[.int .i64 0,.int .i64 0,.int .i64 0,.int .i64 0,.int .i64 0,.int .i64 0,.int .i64 0,.int .u8 0],.bool false]) H:=by
 refine pc (by decide) e39 rfl (by cases L.find? (fun l=>l.id=a)<;>rfl) ?_
 rw [b39,c39]
 simp only [n39,r39,netV_len,netV_0,netV_1,SB,Nat.reduceLT,callee,aOp,ne_eq,Nat.reduceEqDiff,aBin,aUn,if_true,if_false,reduceCtorEq,frame0,place,notTuple,Nat.reduceAdd,Nat.reduceLeDiff,resVal,dite_true,dite_false,Int.reduceEq,Int.reduceLT,Int.reduceLE]
 refine Ret_rounds (fun i=>L.length-i) (fun i fr G=>i≤L.length∧fr 1=.int .i64 a∧fr 2=.pointer (some ⟨H.length,0,none⟩)∧fr 4=.pointer (some ⟨H.length+1,0,none⟩)∧fr 6=.int .i64 (i:Int)∧Ext H G∧hget G H.length=.cells false (netV pp P.length cp pl L.length cl)∧
  hget G (H.length+1)=.cells false [.int .i64 0,.int .i64 0,.int .i64 0,.int .i64 0,.int .i64 0,.int .i64 0,.int .i64 0,.int .u8 0]∧L.find? (fun l=>l.id=a)=(L.drop i).find? (fun l=>l.id=a)) 0
  ⟨Nat.zero_le _,(by simp only [FB,Nat.reduceEqDiff]),(by simp only [FB,Nat.reduceEqDiff]),(by simp only [FB,Nat.reduceEqDiff]),by rfl,Ext.refl.app,hget_new0,hget_new,rfl⟩ ?_
 intro i fr G ⟨hi,h1,h2,h4,h6,hE,hB,h0,hf⟩ hN
 have hl:=hE.len
 rw [Ret_code l39_1.eq_1]
 refine Ret_pad ?_
 have hBX:=fun X=>(Ext.refl.app (X:=X)).cells hB
 have h0X:=fun X=>(Ext.refl.app (X:=X)).cells h0
 by_cases hlt:i<L.length
 ·have hld:=fun X=>((hE.sl hn.sl).app X).loadCells encL_len hlt
  have ld0:=fun X=>((hE.sl hn.sl).app X).loadCell encL_len hlt (j:=0) (by decide)
  rw [encL_0] at ld0
  have hidx:=fun c (k:IntKind) (H1:Heap)=>(hE.sl hn.sl).idx (c:=c) (k:=k) (H1:=H1) hlt
  have hw1:IntKind.i64.wrap ((i:Int)+1)=((i+1:Nat):Int):=wrap_nat (by have:=hn.nl;omega)
  rw [find_drop hlt] at hf
  obtain ⟨G2,e2,k2,m2⟩:=mut_set (hget_alive h0) (.cells false (encL (gt L i)))
  have h2X:=fun X=>(Ext.refl.app (X:=X)).cells k2
  by_cases hid:(gt L i).id=a
  ·simp only [hid,decide_true,if_true] at hf
   simp only [n39,r39,h1,h2,h4,h6,hlt,hidx,hld,ld0,hw1,hBX,h0X,netV_len,netV_0,netV_1,encL_len,encL_0,encL_1,encL_2,encL_3,encL_4,encL_5,encL_6,encL_7,take_all,show H.length≤H.length+1 by omega,eq_true hid,setAll_full,e2,h2X,SB,Nat.reduceLT,callee,aOp,ne_eq,Nat.reduceEqDiff,aBin,aUn,if_true,if_false,reduceCtorEq,frame0,place,notTuple,Nat.reduceAdd,Nat.reduceLeDiff,resVal,dite_true,dite_false,Int.reduceEq,Int.reduceLT,Int.reduceLE]
   rw [hf]
  ·simp only [hid,decide_false,Bool.false_eq_true,if_false] at hf
   simp only [n39,r39,h1,h2,h4,h6,hlt,hidx,hld,ld0,hw1,hBX,h0X,netV_len,netV_0,netV_1,encL_len,encL_0,encL_1,encL_2,encL_3,encL_4,encL_5,encL_6,encL_7,take_all,eq_false hid,SB,Nat.reduceLT,callee,aOp,ne_eq,Nat.reduceEqDiff,aBin,aUn,if_true,if_false,reduceCtorEq,frame0,place,notTuple,Nat.reduceAdd,Nat.reduceLeDiff,resVal,dite_true,dite_false,Int.reduceEq,Int.reduceLT,Int.reduceLE]
   exact hN (i+1) _ _ ⟨by omega,(by simp only [h1,FB,Nat.reduceEqDiff]),(by simp only [h2,FB,Nat.reduceEqDiff]),(by simp only [h4,FB,Nat.reduceEqDiff]),(by simp only [FB,Nat.reduceEqDiff]),hE.app,(Ext.refl.app).cells hB,(Ext.refl.app).cells h0,hf⟩ (by omega)
 ·obtain rfl:i=L.length:=by omega
  rw [List.drop_length,List.find?_nil] at hf
  obtain ⟨G2,e2,k2,m2⟩:=mut_set (hget_alive h0) (.cells false [.int .i64 0,.int .i64 0,.int .i64 0,.int .i64 0,.int .i64 0,.int .i64 0,.int .i64 0,.int .u8 0])
  have h2X:=fun X=>(Ext.refl.app (X:=X)).cells k2
  simp only [n39,r39,h1,h2,h4,h6,hlt,hBX,h0X,netV_len,netV_0,netV_1,show H.length≤H.length+1 by omega,setAll_full,e2,h2X,SB,Nat.reduceLT,callee,aOp,ne_eq,Nat.reduceEqDiff,aBin,aUn,if_true,if_false,reduceCtorEq,frame0,place,notTuple,Nat.reduceAdd,Nat.reduceLeDiff,resVal,dite_true,dite_false,Int.reduceEq,Int.reduceLT,Int.reduceLE]
  rw [hf]
theorem rruns_ok [OB] {mp:Bool} {lim w:Nat} {l:Leg} {H:Heap} {Q:Value→Heap→Prop} (hd:By l) (hw:w≤6):CallR E mp lim 61 [.agg (encL l).toArray,.int .i64 (w:Int)] H Q=Q (.bool (l.days.toNat / 2 ^ w % 2 == 1)) H:=by
 refine pc (by decide) e61 rfl rfl ?_
 rw [b61,c61]
 unfold By at hd
 obtain ⟨D,hD⟩:∃D:Nat,l.days=(D:Int):=⟨l.days.toNat,by omega⟩
 have wd:IntKind.i64.wrap l.days=l.days:=wrap_id (by omega) (by omega)
 simp only [n61,r61,encL_len,encL_0,encL_1,encL_2,encL_3,encL_4,encL_5,encL_6,encL_7,take_all,wd,SB,Nat.reduceLT,callee,aOp,ne_eq,Nat.reduceEqDiff,aBin,aUn,if_true,if_false,reduceCtorEq,frame0,place,notTuple,Nat.reduceAdd,Nat.reduceLeDiff,resVal,dite_true,dite_false,Int.reduceEq,Int.reduceLT,Int.reduceLE]
 rw [hD,Int.toNat_natCast]
 refine Ret_rounds (fun j=>w-j) (fun j fr G=>j≤w∧fr 1=.int .i64 (w:Int)∧fr 5=.int .i64 ((D / 2 ^ j:Nat):Int)∧fr 6=.int .i64 (j:Int)) 0 ⟨Nat.zero_le _,(by simp only [FB,Nat.reduceEqDiff]),by simp only [FB,Nat.reduceEqDiff,hD,Nat.pow_zero,Nat.div_one],by rfl⟩ ?_
 intro j fr G ⟨hj,f1,f5,f6⟩ hN
 rw [Ret_code l61_1.eq_1]
 refine Ret_pad ?_
 have hle:D / 2 ^ j≤D:=Nat.div_le_self _ _
 by_cases hlt:j<w
 ·have hw1:IntKind.i64.wrap ((j:Int)+1)=((j+1:Nat):Int):=wrap_nat (by omega)
  have hw2:IntKind.i64.wrap (Int.tdiv ((D / 2 ^ j:Nat):Int) 2)=((D / 2 ^ (j+1):Nat):Int):=by
   rw [show Int.tdiv ((D / 2 ^ j:Nat):Int) 2=((D / 2 ^ j / 2:Nat):Int) from rfl,Nat.div_div_eq_div_mul,show 2 ^ j*2=2 ^ (j+1) from rfl]
   have:D / 2 ^ (j+1)≤D:=Nat.div_le_self _ _
   generalize D / 2 ^ (j+1)=z at this⊢
   exact wrap_id (by omega) (by omega)
  simp only [n61,r61,f1,f5,f6,hlt,hw1,hw2,SB,Nat.reduceLT,callee,aOp,ne_eq,Nat.reduceEqDiff,aBin,aUn,if_true,if_false,reduceCtorEq,frame0,place,notTuple,Nat.reduceAdd,Nat.reduceLeDiff,resVal,dite_true,dite_false,Int.reduceEq,Int.reduceLT,Int.reduceLE]
  exact hN (j+1) _ _ ⟨by omega,(by simp only [f1,FB,Nat.reduceEqDiff]),(by simp only [FB,Nat.reduceEqDiff]),(by simp only [FB,Nat.reduceEqDiff])⟩ (by omega)
 ·obtain rfl:j=w:=by omega
  have hm:Int.tmod ((D / 2 ^ j:Nat):Int) 2=((D / 2 ^ j % 2:Nat):Int):=rfl
  have hz:D / 2 ^ j % 2<2:=Nat.mod_lt _ (by decide)
  generalize D / 2 ^ j % 2=z at hm hz
  have hw3:IntKind.i64.wrap (z:Int)=(z:Int):=wrap_id (by omega) (by omega)
  match z,hz,hm,hw3 with
  | 0,_,hm,hw3=>
    replace hm:Int.tmod ((D / 2 ^ j:Nat):Int) 2=0:=hm
    have w0:IntKind.i64.wrap 0=0:=by decide
    simp only [n61,r61,f1,f5,f6,hlt,hm,w0,SB,Nat.reduceLT,callee,aOp,ne_eq,Nat.reduceEqDiff,aBin,aUn,if_true,if_false,reduceCtorEq,frame0,place,notTuple,Nat.reduceAdd,Nat.reduceLeDiff,resVal,dite_true,dite_false,Int.reduceEq,Int.reduceLT,Int.reduceLE]
    rfl
  | 1,_,hm,hw3=>
    replace hm:Int.tmod ((D / 2 ^ j:Nat):Int) 2=1:=hm
    have w0:IntKind.i64.wrap 1=1:=by decide
    simp only [n61,r61,f1,f5,f6,hlt,hm,w0,SB,Nat.reduceLT,callee,aOp,ne_eq,Nat.reduceEqDiff,aBin,aUn,if_true,if_false,reduceCtorEq,frame0,place,notTuple,Nat.reduceAdd,Nat.reduceLeDiff,resVal,dite_true,dite_false,Int.reduceEq,Int.reduceLT,Int.reduceLE]
    rfl
theorem ron_ok [OB] {mp:Bool} {lim:Nat} {l:Leg} {d:Int} {H:Heap} {Q:Value→Heap→Prop} (hl:Fine l):CallR E mp lim 49 [.agg (encL l).toArray,.int .i64 d] H Q=Q (depV (onDay l d)) H:=by
 refine pc (by decide) e49 rfl depV_flat ?_
 rw [b49,c49]
 have hrt:=fun (H:Heap) (mp:Bool) (lim:Nat) (Q:Value→Heap→Prop)=>rright_ok (mp:=mp) (lim:=lim) (H:=H) (Q:=Q) hl.by
 rw [decide_eq_true hl] at hrt
 have hF:=hl
 unfold Fine at hF
 by_cases h1:0≤d∧d≤730484
 case neg=>
  have e:onDay l d=none:=by unfold onDay;rw [if_neg (by omega)]
  simp only [n49,r49,encL_len,encL_0,encL_1,encL_2,encL_3,encL_4,encL_5,encL_6,encL_7,take_all,hrt,in_ok,decide_eq_false h1,setAll_full,e,depV,SB,Nat.reduceLT,callee,aOp,ne_eq,Nat.reduceEqDiff,aBin,aUn,if_true,if_false,reduceCtorEq,frame0,place,notTuple,Nat.reduceAdd,Nat.reduceLeDiff,resVal,dite_true,dite_false,Int.reduceEq,Int.reduceLT,Int.reduceLE]
 obtain ⟨n,rfl⟩:∃n:Nat,d=(n:Int):=⟨d.toNat,by omega⟩
 have e:onDay l (n:Int)=depOn l n:=by unfold onDay;rw [if_pos (by omega),Int.toNat_natCast]
 rw [e]
 have hm:Int.tmod (n:Int) 7=((n % 7:Nat):Int):=rfl
 have wm:IntKind.i64.wrap ((n % 7:Nat):Int)=((n % 7:Nat):Int):=wrap_id (by omega) (by omega)
 have hrn:=fun (H:Heap) (mp:Bool) (lim:Nat) (Q:Value→Heap→Prop)=>rruns_ok (mp:=mp) (lim:=lim) (H:=H) (Q:=Q) (w:=n % 7) hl.by (by omega)
 have hg:goes l n=(l.days.toNat / 2 ^ (n % 7) % 2 == 1&&decide (0≤1440*(n:Int)+l.dep-l.cut)&&decide (1440*(n:Int)+l.dep+l.mins≤1051898399)):=rfl
 generalize (l.days.toNat / 2 ^ (n % 7) % 2 == 1)=b at hrn hg
 have w1:IntKind.i64.wrap ((n:Int)*1440)=1440*(n:Int):=by rw [wrap_id (by omega) (by omega)];omega
 have w2:IntKind.i64.wrap (1440*(n:Int)+l.dep)=1440*(n:Int)+l.dep:=wrap_id (by omega) (by omega)
 have w3:IntKind.i64.wrap (1440*(n:Int)+l.dep-l.cut)=1440*(n:Int)+l.dep-l.cut:=wrap_id (by omega) (by omega)
 have w4:IntKind.i64.wrap (1440*(n:Int)+l.dep+l.mins)=1440*(n:Int)+l.dep+l.mins:=wrap_id (by omega) (by omega)
 have no:goes l n=false→depOn l n=none:=fun h=>by unfold depOn;rw [h];rfl
 cases b with
 | false=>
   have e2:=no (by rw [hg];rfl)
   simp only [n49,r49,encL_len,encL_0,encL_1,encL_2,encL_3,encL_4,encL_5,encL_6,encL_7,take_all,hrt,in_ok,decide_eq_true h1,hm,wm,hrn,w1,w2,w3,w4,setAll_full,e2,depV,SB,Nat.reduceLT,callee,aOp,ne_eq,Nat.reduceEqDiff,aBin,aUn,if_true,if_false,reduceCtorEq,frame0,place,notTuple,Nat.reduceAdd,Nat.reduceLeDiff,resVal,dite_true,dite_false,Int.reduceEq,Int.reduceLT,Int.reduceLE]
 | true=>
   by_cases h2:1440*(n:Int)+l.dep-l.cut<0
   ·have e2:=no (by rw [hg,decide_eq_false (by omega)];rfl)
    simp only [n49,r49,encL_len,encL_0,encL_1,encL_2,encL_3,encL_4,encL_5,encL_6,encL_7,take_all,hrt,in_ok,decide_eq_true h1,hm,wm,hrn,w1,w2,w3,w4,setAll_full,eq_true h2,e2,depV,SB,Nat.reduceLT,callee,aOp,ne_eq,Nat.reduceEqDiff,aBin,aUn,if_true,if_false,reduceCtorEq,frame0,place,notTuple,Nat.reduceAdd,Nat.reduceLeDiff,resVal,dite_true,dite_false,Int.reduceEq,Int.reduceLT,Int.reduceLE]
   ·by_cases h3:1051898399<1440*(n:Int)+l.dep+l.mins
    ·have e2:=no (by rw [hg,decide_eq_false (p:=_≤(1051898399:Int)) (by omega),Bool.and_false])
     simp only [n49,r49,encL_len,encL_0,encL_1,encL_2,encL_3,encL_4,encL_5,encL_6,encL_7,take_all,hrt,in_ok,decide_eq_true h1,hm,wm,hrn,w1,w2,w3,w4,setAll_full,eq_false h2,eq_true h3,e2,depV,SB,Nat.reduceLT,callee,aOp,ne_eq,Nat.reduceEqDiff,aBin,aUn,if_true,if_false,reduceCtorEq,frame0,place,notTuple,Nat.reduceAdd,Nat.reduceLeDiff,resVal,dite_true,dite_false,Int.reduceEq,Int.reduceLT,Int.reduceLE]
    ·have e2:depOn l n=some (1440*(n:Int)+l.dep,1440*(n:Int)+l.dep+l.mins):=by
      unfold depOn
      rw [hg,decide_eq_true (p:=_≤(1051898399:Int)) (by omega),decide_eq_true (by omega)];rfl
     simp only [n49,r49,encL_len,encL_0,encL_1,encL_2,encL_3,encL_4,encL_5,encL_6,encL_7,take_all,hrt,in_ok,decide_eq_true h1,hm,wm,hrn,w1,w2,w3,w4,setAll_full,eq_false h2,eq_false h3,e2,depV,SB,Nat.reduceLT,callee,aOp,ne_eq,Nat.reduceEqDiff,aBin,aUn,if_true,if_false,reduceCtorEq,frame0,place,notTuple,Nat.reduceAdd,Nat.reduceLeDiff,resVal,dite_true,dite_false,Int.reduceEq,Int.reduceLT,Int.reduceLE]
theorem rplace_ok [OB] {mp:Bool} {lim:Nat} {pp pl:Option Addr} {P:List Int} {L:List Leg} {cp cl:Nat} {p:Int} {H:Heap} {Q:Value→Heap→Prop} (hn:NetIn H pp pl P L) :
  CallR E mp lim 37 [.agg (netV pp P.length cp pl L.length cl).toArray,.int .i64 p] H Q=Q (.int .i64 (placeN P p)) H:=by
 refine pc (by decide) e37 rfl rfl ?_
 rw [b37,c37]
 simp only [n37,r37,netV_len,netV_0,netV_1,SB,Nat.reduceLT,callee,aOp,ne_eq,Nat.reduceEqDiff,aBin,aUn,if_true,if_false,reduceCtorEq,frame0,place,notTuple,Nat.reduceAdd,Nat.reduceLeDiff,resVal,dite_true,dite_false,Int.reduceEq,Int.reduceLT,Int.reduceLE]
 refine Ret_rounds (fun i=>P.length-i) (fun i fr G=>i≤P.length∧fr 1=.int .i64 p∧fr 2=.pointer (some ⟨H.length,0,none⟩)∧fr 5=.int .i64 (i:Int)∧Ext H G∧hget G H.length=.cells false (netV pp P.length cp pl L.length cl)∧∀j,j<i→gt P j≠p) 0
  ⟨Nat.zero_le _,(by simp only [FB,Nat.reduceEqDiff]),(by simp only [FB,Nat.reduceEqDiff]),by rfl,Ext.refl.app,hget_new0,fun j hj=>by omega⟩ ?_
 intro i fr G ⟨hi,h1,h2,h5,hE,hb,hall⟩ hN
 rw [Ret_code l37_1.eq_1]
 refine Ret_pad ?_
 have hbX:=fun X=>(Ext.refl.app (X:=X)).cells hb
 by_cases hlt:i<P.length
 ·have hld:=fun X=>((hE.sl hn.sp).app X).loadCell0 encI_len hlt (by decide)
  simp only [encI,List.getElem?_cons_zero] at hld
  have hidx:=fun c (k:IntKind) (H1:Heap)=>(hE.sl hn.sp).idx (c:=c) (k:=k) (H1:=H1) hlt
  have hw1:IntKind.i64.wrap ((i:Int)+1)=((i+1:Nat):Int):=wrap_nat (by have:=hn.np;omega)
  by_cases he:gt P i=p
  ·simp only [n37,r37,h1,h2,h5,hbX,netV_len,netV_0,netV_1,hlt,hidx,hld,hw1,eq_true he,SB,Nat.reduceLT,callee,aOp,ne_eq,Nat.reduceEqDiff,aBin,aUn,if_true,if_false,reduceCtorEq,frame0,place,notTuple,Nat.reduceAdd,Nat.reduceLeDiff,resVal,dite_true,dite_false,Int.reduceEq,Int.reduceLT,Int.reduceLE]
   congr 1
   have hm:p∈P:=he▸gt_mem hlt
   rw [placeN,if_pos hm]
   have h1:posN P p≤i:=by
    unfold posN
    apply Decidable.byContradiction;intro hc
    have:=List.not_of_lt_findIdx (xs:=P) (p:=(· == p)) (i:=i) (by unfold List.idxOf at hc;omega)
    rw [gt_lt hlt] at he
    simp [he] at this
   rcases Nat.lt_or_ge (posN P p) i with h3 | h3
   ·exfalso
    have hl:posN P p<P.length:=List.idxOf_lt_length_of_mem hm
    have:=List.getElem_idxOf hl
    refine hall _ h3 ?_
    rw [gt_lt hl];exact this
   ·omega
  ·simp only [n37,r37,h1,h2,h5,hbX,netV_len,netV_0,netV_1,hlt,hidx,hld,hw1,eq_false he,SB,Nat.reduceLT,callee,aOp,ne_eq,Nat.reduceEqDiff,aBin,aUn,if_true,if_false,reduceCtorEq,frame0,place,notTuple,Nat.reduceAdd,Nat.reduceLeDiff,resVal,dite_true,dite_false,Int.reduceEq,Int.reduceLT,Int.reduceLE]
   exact hN (i+1) _ _ ⟨by omega,(by simp only [h1,FB,Nat.reduceEqDiff]),(by simp only [h2,FB,Nat.reduceEqDiff]),(by simp only [FB,Nat.reduceEqDiff]),hE.app,(Ext.refl.app).cells hb,fun j hj=>by
    rcases Nat.lt_or_ge j i with h | h
    ·exact hall j h
    ·obtain rfl:j=i:=by omega
     exact he⟩ (by omega)
 ·obtain rfl:i=P.length:=by omega
  simp only [n37,r37,h1,h2,h5,hbX,netV_len,netV_0,netV_1,hlt,SB,Nat.reduceLT,callee,aOp,ne_eq,Nat.reduceEqDiff,aBin,aUn,if_true,if_false,reduceCtorEq,frame0,place,notTuple,Nat.reduceAdd,Nat.reduceLeDiff,resVal,dite_true,dite_false,Int.reduceEq,Int.reduceLT,Int.reduceLE]
  rw [placeN,if_neg fun hm=>?_]
  obtain ⟨j,hj,he⟩:=List.mem_iff_getElem.1 hm
  exact hall j hj (by rw [gt_lt hj];exact he)
theorem rcheck_ok [OB] {mp:Bool} {lim:Nat} {pp pl:Option Addr} {P:List Int} {L:List Leg} {cp cl:Nat} {a b t:Int} {H:Heap} {Q:Value→Heap→Prop} (hn:NetIn H pp pl P L) :
  CallR E mp lim 22 [.agg (netV pp P.length cp pl L.length cl).toArray,.int .i64 a,.int .i64 b,.int .i64 t] H Q=Q (.int .i64 (errA P L a b t)) H:=by
 refine pc (by decide) e22 rfl rfl ?_
 rw [b22,c22]
 have hv:=fun X (mp:Bool) (lim:Nat) (Q:Value→Heap→Prop)=>rvalid_ok (mp:=mp) (lim:=lim) (cp:=cp) (cl:=cl) (Q:=Q) (hn.app X)
 have hp:=fun X (a:Int) (mp:Bool) (lim:Nat) (Q:Value→Heap→Prop)=>rplace_ok (mp:=mp) (lim:=lim) (cp:=cp) (cl:=cl) (Q:=Q) (p:=a) (hn.app X)
 by_cases h0:validN P L=0
 case neg=>
  have e:errA P L a b t=validN P L:=by unfold errA;rw [if_pos h0]
  simp only [n22,r22,netV_len,netV_0,netV_1,take_all,hv,eq_false h0,e,SB,Nat.reduceLT,callee,aOp,ne_eq,Nat.reduceEqDiff,aBin,aUn,if_true,if_false,reduceCtorEq,frame0,place,notTuple,Nat.reduceAdd,Nat.reduceLeDiff,resVal,dite_true,dite_false,Int.reduceEq,Int.reduceLT,Int.reduceLE]
 have e2:¬(a∈P∧b∈P∧0≤t∧t≤maxTime)→errA P L a b t=2:=fun h=>by unfold errA;rw [if_neg (by simpa using h0),if_neg h]
 have pa:=placeN_nn (P:=P) (p:=a)
 have pb:=placeN_nn (P:=P) (p:=b)
 by_cases h1:placeN P a<0
 ·have e:=e2 fun h=>by have:=pa.2 h.1;omega
  simp only [n22,r22,netV_len,netV_0,netV_1,take_all,hv,hp,eq_true h0,eq_true h1,e,SB,Nat.reduceLT,callee,aOp,ne_eq,Nat.reduceEqDiff,aBin,aUn,if_true,if_false,reduceCtorEq,frame0,place,notTuple,Nat.reduceAdd,Nat.reduceLeDiff,resVal,dite_true,dite_false,Int.reduceEq,Int.reduceLT,Int.reduceLE]
 by_cases h2:placeN P b<0
 ·have e:=e2 fun h=>by have:=pb.2 h.2.1;omega
  simp only [n22,r22,netV_len,netV_0,netV_1,take_all,hv,hp,eq_true h0,eq_false h1,eq_true h2,e,SB,Nat.reduceLT,callee,aOp,ne_eq,Nat.reduceEqDiff,aBin,aUn,if_true,if_false,reduceCtorEq,frame0,place,notTuple,Nat.reduceAdd,Nat.reduceLeDiff,resVal,dite_true,dite_false,Int.reduceEq,Int.reduceLT,Int.reduceLE]
 by_cases h3:t<0
 ·have e:=e2 fun h=>by omega
  simp only [n22,r22,netV_len,netV_0,netV_1,take_all,hv,hp,eq_true h0,eq_false h1,eq_false h2,eq_true h3,e,SB,Nat.reduceLT,callee,aOp,ne_eq,Nat.reduceEqDiff,aBin,aUn,if_true,if_false,reduceCtorEq,frame0,place,notTuple,Nat.reduceAdd,Nat.reduceLeDiff,resVal,dite_true,dite_false,Int.reduceEq,Int.reduceLT,Int.reduceLE]
 by_cases h4:1051898399<t
 ·have e:=e2 fun h=>by unfold maxTime at h;omega
  simp only [n22,r22,netV_len,netV_0,netV_1,take_all,hv,hp,eq_true h0,eq_false h1,eq_false h2,eq_false h3,eq_true h4,e,SB,Nat.reduceLT,callee,aOp,ne_eq,Nat.reduceEqDiff,aBin,aUn,if_true,if_false,reduceCtorEq,frame0,place,notTuple,Nat.reduceAdd,Nat.reduceLeDiff,resVal,dite_true,dite_false,Int.reduceEq,Int.reduceLT,Int.reduceLE]
 have e:errA P L a b t=0:=by unfold errA;rw [if_neg (by simpa using h0),if_pos ⟨pa.1 (by omega),pb.1 (by omega),by omega,by unfold maxTime;omega⟩]
 simp only [n22,r22,netV_len,netV_0,netV_1,take_all,hv,hp,eq_true h0,eq_false h1,eq_false h2,eq_false h3,eq_false h4,e,SB,Nat.reduceLT,callee,aOp,ne_eq,Nat.reduceEqDiff,aBin,aUn,if_true,if_false,reduceCtorEq,frame0,place,notTuple,Nat.reduceAdd,Nat.reduceLeDiff,resVal,dite_true,dite_false,Int.reduceEq,Int.reduceLT,Int.reduceLE]
def firstN (t:Int):Int:=if t<0 then 0 else if 1051898399<t then 730485 else Int.tdiv t 1440
theorem rfirst_ok [OB] {mp:Bool} {lim:Nat} {t:Int} {H:Heap} {Q:Value→Heap→Prop} (ht:-2 ^ 62<t∧t<2 ^ 62):CallR E mp lim 54 [.int .i64 t] H Q=Q (.int .i64 (firstN t)) H:=by
 refine pc (by decide) e54 rfl rfl ?_
 rw [b54,c54]
 by_cases h1:t<0
 ·simp only [n54,r54,eq_true h1,SB,Nat.reduceLT,callee,aOp,ne_eq,Nat.reduceEqDiff,aBin,aUn,if_true,if_false,reduceCtorEq,frame0,place,notTuple,Nat.reduceAdd,Nat.reduceLeDiff,resVal,dite_true,dite_false,Int.reduceEq,Int.reduceLT,Int.reduceLE]
  unfold firstN;rw [if_pos h1]
 ·by_cases h2:1051898399<t
  ·simp only [n54,r54,eq_false h1,eq_true h2,SB,Nat.reduceLT,callee,aOp,ne_eq,Nat.reduceEqDiff,aBin,aUn,if_true,if_false,reduceCtorEq,frame0,place,notTuple,Nat.reduceAdd,Nat.reduceLeDiff,resVal,dite_true,dite_false,Int.reduceEq,Int.reduceLT,Int.reduceLE]
   unfold firstN;rw [if_neg h1,if_pos h2]
  ·simp only [n54,r54,eq_false h1,eq_false h2,SB,Nat.reduceLT,callee,aOp,ne_eq,Nat.reduceEqDiff,aBin,aUn,if_true,if_false,reduceCtorEq,frame0,place,notTuple,Nat.reduceAdd,Nat.reduceLeDiff,resVal,dite_true,dite_false,Int.reduceEq,Int.reduceLT,Int.reduceLE]
   unfold firstN;rw [if_neg h1,if_neg h2]
   have:=Int.tdiv_eq_ediv_of_nonneg (a:=t) (b:=1440) (by omega)
   rw [wrap_id (by omega) (by omega)]
theorem goes_week {l:Leg} {d e:Nat} (hl:Fine l) (h:goes l d=true) (h7:d % 7=e % 7) (hed:e≤d) (h0:7≤e):goes l e=true:=by
 unfold goes runs at *
 unfold Fine at hl
 simp only [Bool.and_eq_true,decide_eq_true_eq] at h⊢
 rw [←h7]
 refine ⟨⟨h.1.1,by omega⟩,by omega⟩
theorem next_in {l:Leg} {r:Int} (hl:Fine l) (hr:0≤r) {e0:Nat} (he:(e0:Int)=r / 1440) (hno:∀i:Nat,i<30→∀a b,onDay l ((e0+i:Nat):Int)=some (a,b)→¬r≤a-l.cut):nextD l r=none:=by
 refine nextD_no fun d hd ⟨hg,hge⟩=>?_
 have hl':=hl
 unfold Fine at hl'
 have hd0:e0≤d:=by omega
 have dn:=dayN_eq
 have key:∀i:Nat,i<30→e0+i<dayN→goes l (e0+i)=true→¬r≤1440*((e0+i:Nat):Int)+l.dep-l.cut:=fun i hi hn hg=>by
  refine hno i hi _ (1440*((e0+i:Nat):Int)+l.dep+l.mins) ?_
  unfold onDay depOn
  rw [if_pos ⟨by omega,by omega⟩,Int.toNat_natCast,if_pos hg]
 rcases Nat.lt_or_ge d (e0+30) with h | h
 ·have:=key (d-e0) (by omega) (by omega) (by rw [show e0+(d-e0)=d by omega];exact hg)
  rw [show e0+(d-e0)=d by omega] at this
  exact this hge
 ·obtain ⟨k,hk⟩:∃k,k=(d-(e0+10)) % 7:=⟨_,rfl⟩
  have h2:=goes_week (e:=e0+(10+k)) hl hg (by omega) (by omega) (by omega)
  exact key (10+k) (by omega) (by omega) h2 (by omega)
theorem next_at {l:Leg} {r:Int} (hl:Fine l) (hr:0≤r) {e0 i:Nat} (he:(e0:Int)=r / 1440) {a b:Int} (hi:onDay l ((e0+i:Nat):Int)=some (a,b)) (hge:r≤a-l.cut) (hno:∀j:Nat,j<i→∀a b,onDay l ((e0+j:Nat):Int)=some (a,b)→¬r≤a-l.cut):nextD l r=some a∧b=a+l.mins:=by
 unfold onDay depOn at hi
 split at hi
 case isFalse=>cases hi
 rename_i h1
 rw [Int.toNat_natCast] at hi
 split at hi
 case isFalse=>cases hi
 rename_i h2
 cases hi
 have dn:=dayN_eq
 have hl':=hl
 unfold Fine at hl'
 refine ⟨nextD_is (by omega) h2 hge fun d hd ⟨hg,hge'⟩=>?_,rfl⟩
 have hd0:e0≤d:=by omega
 refine hno (d-e0) (by omega) (1440*(d:Int)+l.dep) (1440*(d:Int)+l.dep+l.mins) ?_ hge'
 unfold onDay depOn
 rw [show e0+(d-e0)=d by omega,if_pos ⟨by omega,by omega⟩,Int.toNat_natCast,if_pos hg]
theorem rnext_ok [OB] {mp:Bool} {lim:Nat} {l:Leg} {r:Int} {H:Heap} {Q:Value→Heap→Prop} (hl:Fine l) (hr:0≤r) (hr2:r<2 ^ 40):CallR E mp lim 38 [.agg (encL l).toArray,.int .i64 r] H Q=Q (depV ((nextD l r).map fun a=>(a,a+l.mins))) H:=by
 refine pc (by decide) e38 rfl depV_flat ?_
 rw [b38,c38]
 have hF:=hl
 unfold Fine at hF
 obtain ⟨e0,he0⟩:∃e0:Nat,firstN r=e0:=⟨(firstN r).toNat,by unfold firstN;split<;>(try split)<;>(try have:=Int.tdiv_eq_ediv_of_nonneg (a:=r) (b:=1440) (by omega))<;>omega⟩
 have hfst:∀(H:Heap) (mp:Bool) (lim:Nat) (Q:Value→Heap→Prop),CallR E mp lim 54 [.int .i64 r] H Q=Q (.int .i64 (e0:Int)) H:=fun H mp lim Q=>by rw [←he0];exact rfirst_ok ⟨by omega,by omega⟩
 have hfb:e0≤730485:=by
  have:firstN r≤730485:=by
   unfold firstN;split<;>(try split)<;>(try have:=Int.tdiv_eq_ediv_of_nonneg (a:=r) (b:=1440) (by omega))<;>omega
  omega
 have hon:=fun (d:Int) (H:Heap) (mp:Bool) (lim:Nat) (Q:Value→Heap→Prop)=>ron_ok (mp:=mp) (lim:=lim) (d:=d) (H:=H) (Q:=Q) hl
 have hfin:(∀i:Nat,i<30→∀a b,onDay l ((e0+i:Nat):Int)=some (a,b)→¬r≤a-l.cut)→nextD l r=none:=fun h=>by
  by_cases hbig:1051898399<r
  ·exact nextD_late hl hbig
  ·refine next_in hl hr ?_ h
   rw [←he0];unfold firstN;rw [if_neg (by omega),if_neg hbig,Int.tdiv_eq_ediv_of_nonneg hr]
 have hat:∀i:Nat,i<30→∀a b,onDay l ((e0+i:Nat):Int)=some (a,b)→r≤a-l.cut→(∀j:Nat,j<i→∀a b,onDay l ((e0+j:Nat):Int)=some (a,b)→¬r≤a-l.cut)→nextD l r=some a∧b=a+l.mins:=fun i hi a b h1 h2 h3=>by
  by_cases hbig:1051898399<r
  ·exfalso
   have e:(e0:Int)=730485:=by rw [←he0];unfold firstN;rw [if_neg (by omega),if_pos hbig]
   unfold onDay at h1
   rw [if_neg (by omega)] at h1
   cases h1
  ·exact next_at hl hr (by rw [←he0];unfold firstN;rw [if_neg (by omega),if_neg hbig,Int.tdiv_eq_ediv_of_nonneg hr]) h1 h2 h3
 simp only [n38,r38,encL_len,encL_0,encL_1,encL_2,encL_3,encL_4,encL_5,encL_6,encL_7,take_all,hfst,setAll_full,SB,Nat.reduceLT,callee,aOp,ne_eq,Nat.reduceEqDiff,aBin,aUn,if_true,if_false,reduceCtorEq,frame0,place,notTuple,Nat.reduceAdd,Nat.reduceLeDiff,resVal,dite_true,dite_false,Int.reduceEq,Int.reduceLT,Int.reduceLE]
 refine Ret_rounds (fun i=>30-i) (fun i fr G=>i≤30∧fr 1=.int .i64 r∧fr 2=.pointer (some ⟨H.length,0,none⟩)∧fr 4=.pointer (some ⟨H.length+1,0,none⟩)∧fr 6=.int .i64 (e0:Int)∧fr 7=.int .i64 ((e0+i:Nat):Int)∧H.length+2≤G.length∧hget G H.length=.cells false (encL l)∧hget G (H.length+1)=.cells false [.int .i64 0,.int .i64 0]∧∀j:Nat,j<i→∀a b,onDay l ((e0+j:Nat):Int)=some (a,b)→¬r≤a-l.cut) 0
  ⟨Nat.zero_le _,(by simp only [FB,Nat.reduceEqDiff]),(by simp only [FB,Nat.reduceEqDiff]),(by simp only [FB,Nat.reduceEqDiff]),(by simp only [FB,Nat.reduceEqDiff]),by rfl,by simp,by rw [hget_new0];rfl,by rw [hget_new];rfl,fun j hj=>by omega⟩ ?_
 intro i fr G ⟨hi,g1,g2,g4,g6,g7,hlG,hb,hb4,hall⟩ hN
 rw [Ret_code l38_1.eq_1]
 refine Ret_pad ?_
 have hHG:H.length≤G.length:=by omega
 have w1:IntKind.i64.wrap ((e0:Int)+30)=(e0:Int)+30:=wrap_id (by omega) (by omega)
 have bX:=fun X=>(Ext.refl.app (X:=X)).cells hb
 have b4X:=fun X=>(Ext.refl.app (X:=X)).cells hb4
 by_cases hlt:i<30
 case neg=>
  obtain rfl:i=30:=by omega
  have hno:=hfin hall
  have h1:=eq_false (show ¬((e0+30:Nat):Int)<(e0:Int)+30 by omega)
  have hs:=fun b=>hget_set_eq (X:=G++[]) (j:=H.length+1) (b:=b) (by simp;omega)
  simp only [n38,r38,g1,g2,g4,g6,g7,w1,h1,b4X,hs,hno,Option.map_none,depV,take_all,SB,Nat.reduceLT,callee,aOp,ne_eq,Nat.reduceEqDiff,aBin,aUn,if_true,if_false,reduceCtorEq,frame0,place,notTuple,Nat.reduceAdd,Nat.reduceLeDiff,resVal,dite_true,dite_false,Int.reduceEq,Int.reduceLT,Int.reduceLE]
 have h1:=eq_true (show ((e0+i:Nat):Int)<(e0:Int)+30 by omega)
 have wi:IntKind.i64.wrap (((e0+i:Nat):Int)+1)=((e0+(i+1):Nat):Int):=by rw [wrap_id (by omega) (by omega)];omega
 have hr0:=eq_false (show ¬r<0 by omega)
 rcases hod:onDay l ((e0+i:Nat):Int) with _ | ⟨a,b⟩
 ·have hon1:=fun (H:Heap) (mp:Bool) (lim:Nat) (Q:Value→Heap→Prop)=>hon ((e0+i:Nat):Int) H mp lim Q
  rw [hod] at hon1
  simp only [depV] at hon1
  simp only [n38,r38,g1,g2,g4,g6,g7,w1,h1,bX,encL_len,encL_0,encL_1,encL_2,encL_3,encL_4,encL_5,encL_6,encL_7,take_all,hon1,hHG,setAll_full,wi,SB,Nat.reduceLT,callee,aOp,ne_eq,Nat.reduceEqDiff,aBin,aUn,if_true,if_false,reduceCtorEq,frame0,place,notTuple,Nat.reduceAdd,Nat.reduceLeDiff,resVal,dite_true,dite_false,Int.reduceEq,Int.reduceLT,Int.reduceLE]
  exact hN (i+1) _ _ ⟨by omega,(by simp only [g1,FB,Nat.reduceEqDiff]),(by simp only [g2,FB,Nat.reduceEqDiff]),(by simp only [g4,FB,Nat.reduceEqDiff]),(by simp only [g6,FB,Nat.reduceEqDiff]),(by simp only [FB,Nat.reduceEqDiff]),by simp;omega,(Ext.refl.app).cells hb,(Ext.refl.app).cells hb4,fun j hj a b h=>by
   rcases Nat.lt_or_ge j i with h2 | h2
   ·exact hall j h2 a b h
   ·obtain rfl:j=i:=by omega
    rw [hod] at h;cases h⟩ (by omega)
 have hab:0≤a∧a≤1051898399:=by
  unfold onDay depOn goes at hod
  split at hod
  case isFalse=>cases hod
  split at hod
  case isFalse=>cases hod
  rename_i h2 h3
  cases hod
  simp only [Bool.and_eq_true,decide_eq_true_eq] at h3
  have mt:maxTime=1051898399:=rfl
  omega
 have w2:IntKind.i64.wrap (a-l.cut)=a-l.cut:=wrap_id (by omega) (by omega)
 have hon1:=fun (H:Heap) (mp:Bool) (lim:Nat) (Q:Value→Heap→Prop)=>hon ((e0+i:Nat):Int) H mp lim Q
 rw [hod] at hon1
 simp only [depV] at hon1
 by_cases hge:r≤a-l.cut
 ·obtain ⟨hx,hy⟩:=hat i hlt a b hod hge hall
  have hs:=fun X b=>hget_set_eq (X:=G++X) (j:=H.length+1) (b:=b) (by simp;omega)
  simp only [n38,r38,g1,g2,g4,g6,g7,w1,h1,bX,b4X,encL_len,encL_0,encL_1,encL_2,encL_3,encL_4,encL_5,encL_6,encL_7,take_all,hon1,hHG,setAll_full,wi,hr0,w2,eq_true hge,hs,hx,hy,Option.map_some,depV,take_all,SB,Nat.reduceLT,callee,aOp,ne_eq,Nat.reduceEqDiff,aBin,aUn,if_true,if_false,reduceCtorEq,frame0,place,notTuple,Nat.reduceAdd,Nat.reduceLeDiff,resVal,dite_true,dite_false,Int.reduceEq,Int.reduceLT,Int.reduceLE]
 ·simp only [n38,r38,g1,g2,g4,g6,g7,w1,h1,bX,encL_len,encL_0,encL_1,encL_2,encL_3,encL_4,encL_5,encL_6,encL_7,take_all,hon1,hHG,setAll_full,wi,hr0,w2,eq_false hge,SB,Nat.reduceLT,callee,aOp,ne_eq,Nat.reduceEqDiff,aBin,aUn,if_true,if_false,reduceCtorEq,frame0,place,notTuple,Nat.reduceAdd,Nat.reduceLeDiff,resVal,dite_true,dite_false,Int.reduceEq,Int.reduceLT,Int.reduceLE]
  exact hN (i+1) _ _ ⟨by omega,(by simp only [g1,FB,Nat.reduceEqDiff]),(by simp only [g2,FB,Nat.reduceEqDiff]),(by simp only [g4,FB,Nat.reduceEqDiff]),(by simp only [g6,FB,Nat.reduceEqDiff]),(by simp only [FB,Nat.reduceEqDiff]),by simp;omega,(Ext.refl.app).cells hb,(Ext.refl.app).cells hb4,fun j hj a' b' h=>by
   rcases Nat.lt_or_ge j i with h2 | h2
   ·exact hall j h2 a' b' h
   ·obtain rfl:j=i:=by omega
    rw [hod] at h;cases h;exact hge⟩ (by omega)
theorem legs_loop [OB] {lim A5 Rb Ra cb ca cp cl:Nat} {pp pl:Option Addr} {P:List Int} {L:List Leg} {bef:List Int} {ul:Int} {G0:Heap} {fr:Nat→Value} {K:List AItem} {Z:Value→Heap→Prop} (hno:NetOk 50 P L (posN P)) (h50:P.length≤50) (hLl:L.length<2 ^ 60)
  (hnet:∀G,Chg [Ra] G0 G→NetIn G pp pl P L) (hlim:lim≤Ra) (hlG0:lim≤G0.length) (hb5:hget G0 A5=.cells false (netV pp P.length cp pl L.length cl)) (h5a:A5≠Ra) (hbef:hget G0 Rb=.cells false (bef.flatMap encI)) (hba:Rb≠Ra) (hbl:bef.length=P.length) (hbr:∀x∈bef,x<2 ^ 40)
  (haft:hget G0 Ra=.cells false (bef.flatMap encI)) (f3:fr 3=.int .i64 ul) (f5:fr 5=.pointer (some ⟨A5,0,none⟩)) (f11:fr 11=.slice (some ⟨Rb,0,none⟩) P.length cb) (f14:fr 14=.slice (some ⟨Ra,0,none⟩) P.length ca) (f15:fr 15=.int .i64 0)
  (hR:∀fr' G,Chg [Ra] G0 G→hget G Ra=.cells false ((stepA (posN P) ul L bef).flatMap encI)→(∀j,j≤14→fr' j=fr j)→Ret E a23 lim K fr' G Z) :
  Ret E a23 lim (.code (.loop l23_1)::.inBlock 4::K) fr G0 Z:=by
 refine Ret_rounds (fun i=>L.length-i) (fun i fr' G=>i≤L.length∧Chg [Ra] G0 G∧hget G Ra=.cells false (((L.take i).foldl (useA (posN P) ul bef) bef).flatMap encI)∧(∀j,j≤14→fr' j=fr j)∧fr' 15=.int .i64 (i:Int)) 0
  ⟨Nat.zero_le _,Chg.refl,haft,fun _ _=>rfl,by rw [f15];rfl⟩ ?_
 intro i fr' G ⟨hi,hC,hA,hfr,g15⟩ hN
 rw [Ret_code l23_1.eq_1]
 have g3:=(hfr 3 (by decide)).trans f3
 have g5:=(hfr 5 (by decide)).trans f5
 have g11:=(hfr 11 (by decide)).trans f11
 have g14:=(hfr 14 (by decide)).trans f14
 have hn:=hnet G hC
 have b5:=hC.cells hb5 (by simpa using h5a)
 have b5X:=fun X=>(Ext.refl.app (X:=X)).cells b5
 have hlG:lim≤G.length:=Nat.le_trans hlG0 hC.len
 have hfr':∀(f:Nat→Value),(∀j,j≤14→f j=fr' j)→∀j,j≤14→f j=fr j:=fun f h j hj=>(h j hj).trans (hfr j hj)
 refine Ret_pad ?_
 by_cases hlt:i<L.length
 case neg=>
  obtain rfl:i=L.length:=by omega
  rw [List.take_length] at hA
  simp only [n23,r23,g3,g5,g11,g14,g15,b5X,netV_len,netV_0,netV_1,hlt,SB,Nat.reduceLT,callee,aOp,ne_eq,Nat.reduceEqDiff,aBin,aUn,if_true,if_false,reduceCtorEq,frame0,place,notTuple,Nat.reduceAdd,Nat.reduceLeDiff,resVal,dite_true,dite_false,Int.reduceEq,Int.reduceLT,Int.reduceLE]
  exact hR _ _ hC.app ((Ext.refl.app).cells hA) fun j hj=>by
   rw [←hfr j hj]
   simp only [upd]
   repeat rw [if_neg (by omega)]
 have hll:=gt_mem (l:=L) (i:=i) hlt
 have hf:=hno.frm _ hll
 have hd:=hno.dst _ hll
 have hfine:=hno.fine _ hll
 have hstep:(L.take (i+1)).foldl (useA (posN P) ul bef) bef=useA (posN P) ul bef ((L.take i).foldl (useA (posN P) ul bef) bef) (gt L i):=foldl_take hlt
 have hafl:((L.take i).foldl (useA (posN P) ul bef) bef).length=P.length:=by rw [foldA_len,hbl]
 have hpf:posN P (gt L i).frm<P.length:=List.idxOf_lt_length_of_mem hf
 have hpd:posN P (gt L i).dst<P.length:=List.idxOf_lt_length_of_mem hd
 have hp1:∀(X:Heap) (mp:Bool) (lim:Nat) (Q:Value→Heap→Prop),CallR E mp lim 37 [.agg (netV pp P.length cp pl L.length cl).toArray,.int .i64 (gt L i).frm] (G++X) Q=Q (.int .i64 (posN P (gt L i).frm:Int)) (G++X):=fun X mp lim Q=>by
  have:=rplace_ok (mp:=mp) (lim:=lim) (cp:=cp) (cl:=cl) (p:=(gt L i).frm) (Q:=Q) (hn.app X)
  rw [placeN,if_pos hf] at this
  exact this
 have hp2:∀(X:Heap) (mp:Bool) (lim:Nat) (Q:Value→Heap→Prop),CallR E mp lim 37 [.agg (netV pp P.length cp pl L.length cl).toArray,.int .i64 (gt L i).dst] (G++X) Q=Q (.int .i64 (posN P (gt L i).dst:Int)) (G++X):=fun X mp lim Q=>by
  have:=rplace_ok (mp:=mp) (lim:=lim) (cp:=cp) (cl:=cl) (p:=(gt L i).dst) (Q:=Q) (hn.app X)
  rw [placeN,if_pos hd] at this
  exact this
 have lL:=fun X=>(hn.sl.app X).loadCells encL_len hlt
 have xL:=fun c (kk:IntKind) (H1:Heap)=>hn.sl.idx (c:=c) (k:=kk) (H1:=H1) hlt
 have bR:=hC.cells hbef (by simpa using hba)
 have sB:Sl G encI 1 (some ⟨Rb,0,none⟩) bef:=Sl.row encI_len bR
 have lB:=ld_ints (i:=posN P (gt L i).frm) sB (by omega)
 have xB:=ix_ints (i:=posN P (gt L i).frm) sB hpf hbl
 have eB:gt bef (posN P (gt L i).frm)=bef.getD (posN P (gt L i).frm) (-1):=gt_getD (by omega)
 have hBm:=hbr _ (gt_mem (l:=bef) (i:=posN P (gt L i).frm) (by omega))
 rw [eB] at lB hBm
 have w1:IntKind.i64.wrap ((i:Int)+1)=((i+1:Nat):Int):=wrap_nat (by omega)
 generalize haf:(L.take i).foldl (useA (posN P) ul bef) bef=aft at *
 have sA:Sl G encI 1 (some ⟨Ra,0,none⟩) aft:=Sl.row encI_len hA
 have lA:=ld_ints (i:=posN P (gt L i).dst) sA (by omega)
 have xA:=ix_ints (i:=posN P (gt L i).dst) sA hpd hafl
 have eA:gt aft (posN P (gt L i).dst)=aft.getD (posN P (gt L i).dst) (-1):=gt_getD (by omega)
 rw [eA] at lA
 generalize hnxt:(L.take (i+1)).foldl (useA (posN P) ul bef) bef=nxt at hstep
 unfold useA at hstep
 generalize gt L i=l at *
 generalize bef.getD (posN P l.frm) (-1)=v at *
 generalize hw:aft.getD (posN P l.dst) (-1)=w at *
 by_cases hv:v<0
 ·rw [if_pos hv] at hstep
  simp only [n23,r23,g3,g5,g11,g14,g15,b5X,netV_len,netV_0,netV_1,encL_len,encL_0,encL_1,encL_2,encL_3,encL_4,encL_5,encL_6,encL_7,take_all,hlt,hlG,hp1,hp2,lL,xL,lB,xB,lA,xA,w1,setAll_full,eq_true hv,SB,Nat.reduceLT,callee,aOp,ne_eq,Nat.reduceEqDiff,aBin,aUn,if_true,if_false,reduceCtorEq,frame0,place,notTuple,Nat.reduceAdd,Nat.reduceLeDiff,resVal,dite_true,dite_false,Int.reduceEq,Int.reduceLT,Int.reduceLE]
  exact hN (i+1) _ _ ⟨by omega,hC.app,by rw [hnxt,hstep];exact (Ext.refl.app).cells hA,hfr' _ fun j hj=>by
   simp only [upd]
   repeat rw [if_neg (by omega)],(by simp only [FB,Nat.reduceEqDiff])⟩ (by omega)
 rw [if_neg hv] at hstep
 have hnx:=fun (H:Heap) (mp:Bool) (lim:Nat) (Q:Value→Heap→Prop)=>rnext_ok (mp:=mp) (lim:=lim) (H:=H) (Q:=Q) hfine (show 0≤v by omega) hBm
 rcases hnd:nextD l v with _ | a
 ·rw [hnd] at hstep hnx
  simp only [Option.map_none,depV] at hstep hnx
  simp only [n23,r23,g3,g5,g11,g14,g15,b5X,netV_len,netV_0,netV_1,encL_len,encL_0,encL_1,encL_2,encL_3,encL_4,encL_5,encL_6,encL_7,take_all,hlt,hlG,hp1,hp2,lL,xL,lB,xB,lA,xA,w1,setAll_full,eq_false hv,hnx,SB,Nat.reduceLT,callee,aOp,ne_eq,Nat.reduceEqDiff,aBin,aUn,if_true,if_false,reduceCtorEq,frame0,place,notTuple,Nat.reduceAdd,Nat.reduceLeDiff,resVal,dite_true,dite_false,Int.reduceEq,Int.reduceLT,Int.reduceLE]
  exact hN (i+1) _ _ ⟨by omega,hC.app,by rw [hnxt,hstep];exact (Ext.refl.app).cells hA,hfr' _ fun j hj=>by
   simp only [upd]
   repeat rw [if_neg (by omega)],(by simp only [FB,Nat.reduceEqDiff])⟩ (by omega)
 rw [hnd] at hstep hnx
 simp only [Option.map_some,depV] at hstep hnx
 by_cases h1:a+l.mins≤ul
 case neg=>
  rw [if_neg fun h=>h1 h.1] at hstep
  simp only [n23,r23,g3,g5,g11,g14,g15,b5X,netV_len,netV_0,netV_1,encL_len,encL_0,encL_1,encL_2,encL_3,encL_4,encL_5,encL_6,encL_7,take_all,hlt,hlG,hp1,hp2,lL,xL,lB,xB,lA,xA,w1,setAll_full,eq_false hv,hnx,eq_false h1,SB,Nat.reduceLT,callee,aOp,ne_eq,Nat.reduceEqDiff,aBin,aUn,if_true,if_false,reduceCtorEq,frame0,place,notTuple,Nat.reduceAdd,Nat.reduceLeDiff,resVal,dite_true,dite_false,Int.reduceEq,Int.reduceLT,Int.reduceLE]
  exact hN (i+1) _ _ ⟨by omega,hC.app,by rw [hnxt,hstep];exact (Ext.refl.app).cells hA,hfr' _ fun j hj=>by
   simp only [upd]
   repeat rw [if_neg (by omega)],(by simp only [FB,Nat.reduceEqDiff])⟩ (by omega)
 by_cases h2:w<0∨a+l.mins<w
 case neg=>
  rw [if_neg fun h=>h2 h.2] at hstep
  simp only [n23,r23,g3,g5,g11,g14,g15,b5X,netV_len,netV_0,netV_1,encL_len,encL_0,encL_1,encL_2,encL_3,encL_4,encL_5,encL_6,encL_7,take_all,hlt,hlG,hp1,hp2,lL,xL,lB,xB,lA,xA,w1,setAll_full,eq_false hv,hnx,eq_true h1,eq_false (show ¬w<0 by omega),eq_false (show ¬a+l.mins<w by omega),SB,Nat.reduceLT,callee,aOp,ne_eq,Nat.reduceEqDiff,aBin,aUn,if_true,if_false,reduceCtorEq,frame0,place,notTuple,Nat.reduceAdd,Nat.reduceLeDiff,resVal,dite_true,dite_false,Int.reduceEq,Int.reduceLT,Int.reduceLE]
  exact hN (i+1) _ _ ⟨by omega,hC.app,by rw [hnxt,hstep];exact (Ext.refl.app).cells hA,hfr' _ fun j hj=>by
   simp only [upd]
   repeat rw [if_neg (by omega)],(by simp only [FB,Nat.reduceEqDiff])⟩ (by omega)
 rw [if_pos ⟨h1,h2⟩] at hstep
 obtain ⟨G2,e2,k2,m2⟩:=store_mut (lim:=lim) (p:=some ⟨Ra,0,none⟩) (i:=posN P l.dst) encI_len rfl hA hlim (by omega) (a+l.mins)
 simp only [encI] at e2
 have hC2:Chg [Ra] G0 G2:=hC.mut m2 (.inl (by simp))
 by_cases h3:w<0
 ·simp only [n23,r23,g3,g5,g11,g14,g15,b5X,netV_len,netV_0,netV_1,encL_len,encL_0,encL_1,encL_2,encL_3,encL_4,encL_5,encL_6,encL_7,take_all,hlt,hlG,hp1,hp2,lL,xL,lB,xB,lA,xA,w1,setAll_full,eq_false hv,hnx,eq_true h1,eq_true h3,e2,SB,Nat.reduceLT,callee,aOp,ne_eq,Nat.reduceEqDiff,aBin,aUn,if_true,if_false,reduceCtorEq,frame0,place,notTuple,Nat.reduceAdd,Nat.reduceLeDiff,resVal,dite_true,dite_false,Int.reduceEq,Int.reduceLT,Int.reduceLE]
  exact hN (i+1) _ _ ⟨by omega,hC2.app,by rw [hnxt,hstep];exact (Ext.refl.app).cells k2,hfr' _ fun j hj=>by
   simp only [upd]
   repeat rw [if_neg (by omega)],(by simp only [FB,Nat.reduceEqDiff])⟩ (by omega)
 ·simp only [n23,r23,g3,g5,g11,g14,g15,b5X,netV_len,netV_0,netV_1,encL_len,encL_0,encL_1,encL_2,encL_3,encL_4,encL_5,encL_6,encL_7,take_all,hlt,hlG,hp1,hp2,lL,xL,lB,xB,lA,xA,w1,setAll_full,eq_false hv,hnx,eq_true h1,eq_false h3,eq_true (show a+l.mins<w by omega),e2,SB,Nat.reduceLT,callee,aOp,ne_eq,Nat.reduceEqDiff,aBin,aUn,if_true,if_false,reduceCtorEq,frame0,place,notTuple,Nat.reduceAdd,Nat.reduceLeDiff,resVal,dite_true,dite_false,Int.reduceEq,Int.reduceLT,Int.reduceLE]
  exact hN (i+1) _ _ ⟨by omega,hC2.app,by rw [hnxt,hstep];exact (Ext.refl.app).cells k2,hfr' _ fun j hj=>by
   simp only [upd]
   repeat rw [if_neg (by omega)],(by simp only [FB,Nat.reduceEqDiff])⟩ (by omega)
theorem fill_loop [OB] {lim A5 cp cl:Nat} {pp pl:Option Addr} {P:List Int} {L:List Leg} {H G:Heap} {fr:Nat→Value} {K:List AItem} {Z:Value→Heap→Prop} (h50:P.length≤50) (hlim:lim≤H.length) (hC:Chg [] H G) (hb5:hget G A5=.cells false (netV pp P.length cp pl L.length cl)) (h5:H.length≤A5)
  (f5:fr 5=.pointer (some ⟨A5,0,none⟩)) (f11:fr 11=.slice none 0 0) (f12:fr 12=.int .i64 0)
  (hR:∀fr' G' q cq,Chg [] G G'→Own G.length G' encI 1 q cq (List.replicate P.length (-1))→fr' 11=.slice q P.length cq→(∀j,j≤10→fr' j=fr j)→Ret E a23 lim K fr' G' Z) :
  Ret E a23 lim (.code (.loop l23_3)::.inBlock 0::K) fr G Z:=by
 refine Ret_rounds (fun s:Nat×Option Addr×Nat=>P.length-s.1) (fun s fr' G'=>s.1≤P.length∧Chg [] G G'∧Own G.length G' encI 1 s.2.1 s.2.2 (List.replicate s.1 (-1))∧fr' 11=.slice s.2.1 s.1 s.2.2∧fr' 12=.int .i64 (s.1:Int)∧(∀j,j≤10→fr' j=fr j)) (0,none,0)
  ⟨Nat.zero_le _,Chg.refl,.nil,by rw [f11],by rw [f12];rfl,fun _ _=>rfl⟩ ?_
 rintro ⟨i,pw,cw⟩ fr' G' ⟨hi,hC',hO,g11,g12,hfr⟩ hN
 simp only at hi hO g11 g12
 rw [Ret_code l23_3.eq_1]
 have g5:=(hfr 5 (by decide)).trans f5
 have b5X:=fun X=>(Ext.refl.app (X:=X)).cells (hC'.cells hb5 (by simp))
 refine Ret_pad ?_
 by_cases hlt:i<P.length
 case neg=>
  obtain rfl:i=P.length:=by omega
  simp only [n23,r23,g5,g11,g12,b5X,netV_len,netV_0,netV_1,hlt,SB,Nat.reduceLT,callee,aOp,ne_eq,Nat.reduceEqDiff,aBin,aUn,if_true,if_false,reduceCtorEq,frame0,place,notTuple,Nat.reduceAdd,Nat.reduceLeDiff,resVal,dite_true,dite_false,Int.reduceEq,Int.reduceLT,Int.reduceLE]
  exact hR _ _ pw cw hC'.app (hO.app _) (by simp only [g11,FB,Nat.reduceEqDiff]) fun j hj=>by
   rw [←hfr j hj]
   simp only [upd]
   repeat rw [if_neg (by omega)]
 have wi:IntKind.i64.wrap ((i:Int)+1)=((i+1:Nat):Int):=wrap_nat (by omega)
 have hfr':∀(f:Nat→Value),(∀j,j≤10→f j=fr' j)→∀j,j≤10→f j=fr j:=fun f h j hj=>(h j hj).trans (hfr j hj)
 have hlG:=hC'.len
 have hlH:=hC.len
 obtain ⟨G4,e4,O4,C4,hl4⟩:=Own.moreF hO (lim':=lim) (bytes:=8) (by omega) encI_len (by decide) [(-1:Int)] (by simp) (by simp;unfold maxBytes;omega) (by simp;omega) [.cells false [.int .i64 (-1)]] (x:=.slice (some ⟨G'.length,0,none⟩) 1 1) (str:=false)
  (first_slice (m:=[(-1:Int)]) (Sl.row (ro:=false) encI_len (by rw [hget_new0];rfl))) rfl
 have hpw:∀j,j∈opB pw→G.length≤j:=fun j hj=>by
  cases hpe:pw with
  | none=>rw [hpe] at hj;cases hj
  | some a=>rw [hpe] at hj;have:=hO.block hpe;simp [opB] at hj;omega
 generalize hp':(G'++[Blk.cells false [.int .i64 (-1)]]).length=r at e4 O4 hl4
 have hr':G'.length≤r:=by rw [←hp'];simp
 generalize loose 1=c' at e4 O4
 simp only [List.length_cons,List.length_nil,Nat.zero_add,List.length_replicate] at e4
 have eb:List.replicate (i+1) (-1:Int)=List.replicate i (-1)++[-1]:=List.replicate_succ'
 simp only [n23,r23,g5,g11,g12,b5X,netV_len,netV_0,netV_1,hlt,wi,e4,SB,Nat.reduceLT,callee,aOp,ne_eq,Nat.reduceEqDiff,aBin,aUn,if_true,if_false,reduceCtorEq,frame0,place,notTuple,Nat.reduceAdd,Nat.reduceLeDiff,resVal,dite_true,dite_false,Int.reduceEq,Int.reduceLT,Int.reduceLE]
 exact hN (i+1,some ⟨r,0,none⟩,c') _ _ ⟨by show i+1≤P.length;omega,(hC'.trans' C4 fun j hj hjl=>by have:=hpw j hj;omega).app,by simp only [eb];exact (O4.le (by omega)).app _,by rfl,(by simp only [FB,Nat.reduceEqDiff]),hfr' _ fun j hj=>by
  simp only [upd]
  repeat rw [if_neg (by omega)]⟩ (by show P.length-(i+1)<P.length-i;omega)
theorem arr_withinN {N:Nat} {P:List Int} {L:List Leg} {p ready lim:Int} (hn:NetOk N P L (posN P)) (hr:0≤ready) (hl:ready≤lim):∀k,Within ready lim (arrK N (posN P) lim L p ready k)
 | 0=>by
   intro t ht
   rw [arrK,oneT] at ht
   rcases List.mem_or_eq_of_mem_set ht with h | rfl
   ·exact .inl (List.eq_of_mem_replicate h)
   ·exact .inr ⟨Int.le_refl _,hl⟩
 | k+1=>(stepA_mu (arr_withinN hn hr hl k) hr fun l hll=>⟨hn.fine l hll,by rw [arrK_len];exact hn.lt _ (hn.dst l hll)⟩).1
theorem rounds_loop [OB] {lim A5 cp cl k R0:Nat} {pp pl:Option Addr} {P:List Int} {L:List Leg} {p r ul:Int} {H G0:Heap} {fr:Nat→Value} {K:List AItem} {Z:Value→Heap→Prop} (hn:NetIn H pp pl P L) (hno:NetOk 50 P L (posN P)) (h50:P.length≤50) (hLl:L.length<2 ^ 60) (hp:p∈P) (hr:0≤r) (hru:r≤ul) (hul:ul<2 ^ 40) (hk:k<2 ^ 60)
  (hlim:lim≤H.length) (hC0:Chg [] H G0) (hb5:hget G0 A5=.cells false (netV pp P.length cp pl L.length cl)) (h5:H.length≤A5) (hR0:hget G0 R0=.cells false ((oneT P.length (posN P p) r).flatMap encI)) (hlR:H.length≤R0)
  (f3:fr 3=.int .i64 ul) (f4:fr 4=.int .i64 (k:Int)) (f5:fr 5=.pointer (some ⟨A5,0,none⟩)) (f11:fr 11=.slice (some ⟨R0,0,none⟩) P.length (loose 1)) (f13:fr 13=.int .i64 0)
  (hR:∀fr' G R,Chg [] H G→hget G R=.cells false ((arrK P.length (posN P) ul L p r k).flatMap encI)→H.length≤R→fr' 11=.slice (some ⟨R,0,none⟩) P.length (loose 1)→Ret E a23 lim K fr' G Z) :
  Ret E a23 lim (.code (.loop l23_2)::.inBlock 2::K) fr G0 Z:=by
 refine Ret_rounds (fun s:Nat×Nat=>k-s.1) (fun s fr' G=>s.1≤k∧Chg [] H G∧hget G A5=.cells false (netV pp P.length cp pl L.length cl)∧hget G s.2=.cells false ((arrK P.length (posN P) ul L p r s.1).flatMap encI)∧H.length≤s.2∧fr' 11=.slice (some ⟨s.2,0,none⟩) P.length (loose 1)∧fr' 13=.int .i64 (s.1:Int)∧(∀j,j≤10→fr' j=fr j)) (0,R0)
  ⟨Nat.zero_le _,hC0,hb5,hR0,hlR,f11,by rw [f13];rfl,fun _ _=>rfl⟩ ?_
 rintro ⟨i,R⟩ fr' G ⟨hi,hC,b5,hA,hlA,g11,g13,hfr⟩ hN
 simp only at hi hA hlA g11 g13
 rw [Ret_code l23_2.eq_1]
 have g3:=(hfr 3 (by decide)).trans f3
 have g4:=(hfr 4 (by decide)).trans f4
 have g5:=(hfr 5 (by decide)).trans f5
 have b5X:=fun X=>(Ext.refl.app (X:=X)).cells b5
 refine Ret_pad ?_
 by_cases hlt:i<k
 case neg=>
  obtain rfl:i=k:=by omega
  simp only [n23,r23,g3,g4,g5,g11,g13,hlt,SB,Nat.reduceLT,callee,aOp,ne_eq,Nat.reduceEqDiff,aBin,aUn,if_true,if_false,reduceCtorEq,frame0,place,notTuple,Nat.reduceAdd,Nat.reduceLeDiff,resVal,dite_true,dite_false,Int.reduceEq,Int.reduceLT,Int.reduceLE]
  exact hR _ _ R hC.app ((Ext.refl.app).cells hA) hlA (by simp only [g11,FB,Nat.reduceEqDiff])
 have hno':NetOk P.length P L (posN P):=⟨hno.fine,hno.frm,hno.dst,hno.inj,fun a ha=>List.idxOf_lt_length_of_mem ha⟩
 have w1:IntKind.i64.wrap ((i:Int)+1)=((i+1:Nat):Int):=wrap_nat (by omega)
 have hlG:=hC.len
 have hbl:(arrK P.length (posN P) ul L p r i).length=P.length:=arrK_len
 have hstep:arrK P.length (posN P) ul L p r (i+1)=stepA (posN P) ul L (arrK P.length (posN P) ul L p r i):=rfl
 have hbr:∀x∈arrK P.length (posN P) ul L p r i,x<2 ^ 40:=fun x hx=>by
  rcases arr_withinN hno' hr hru i x hx with h | h<;>omega
 generalize arrK P.length (posN P) ul L p r i=bef at hA hbl hstep hbr
 have sB:Sl G encI 1 (some ⟨R,0,none⟩) bef:=Sl.row encI_len hA
 have hpl:=List.length_pos_of_mem hp
 have e3:aAppend lim none 1 8 false (.slice (some ⟨G.length,0,none⟩) 0 0) (.slice (some ⟨R,0,none⟩) bef.length (loose 1)) (G++[.cells false []])=some (.slice (some ⟨G.length+1,0,none⟩) bef.length (loose 1),G++[.cells false [],.cells false (bef.flatMap encI)]):=by
  have:=append_newN (lim:=lim) (b:=G.length) (e:=1) (bytes:=8) (c:=loose 1) (enc:=encI) (H:=G++[.cells false []]) (by rw [hget_new0];rfl) (sB.app _) (by decide) (by unfold maxBytes;omega) (by omega) (by intro h;rw [h] at hbl;simp at hbl;omega)
  simpa using this
 rw [hbl] at e3
 simp only [n23,r23,g3,g4,g5,g11,g13,hlt,e3,SB,Nat.reduceLT,callee,aOp,ne_eq,Nat.reduceEqDiff,aBin,aUn,if_true,if_false,reduceCtorEq,frame0,place,notTuple,Nat.reduceAdd,Nat.reduceLeDiff,resVal,dite_true,dite_false,Int.reduceEq,Int.reduceLT,Int.reduceLE]
 have k1:hget (G++[Blk.cells false [],Blk.cells false (bef.flatMap encI)]) (G.length+1)=.cells false (bef.flatMap encI):=by rw [hget_new];rfl
 refine legs_loop (lim:=lim) (A5:=A5) (Rb:=R) (Ra:=G.length+1) (cb:=loose 1) (ca:=loose 1) (cp:=cp) (cl:=cl) (bef:=bef) (ul:=ul) hno h50 hLl
  (fun G' hG'=>hn.sim fun b ro c hb=>(hC.app.trans' hG' fun j hj hjl=>by simp at hj;omega).cells hb (by simp)) (by omega) (by simp;omega) ((Ext.refl.app).cells b5) (by have:=hget_alive b5;omega) ((Ext.refl.app).cells hA) (by have:=hget_alive hA;omega) hbl hbr k1 (by simp only [g3,FB,Nat.reduceEqDiff]) (by simp only [g5,FB,Nat.reduceEqDiff]) (by simp only [g11,FB,Nat.reduceEqDiff]) (by simp only [FB,Nat.reduceEqDiff]) (by rfl) fun fr1 G1 hC1 k2 hfr1=>?_
 have f4':∀j,j≤10→fr1 j=fr' j:=fun j hj=>by
  rw [hfr1 j (by omega)]
  simp only [upd]
  repeat rw [if_neg (by omega)]
 have f13':fr1 13=.int .i64 (i:Int):=(hfr1 13 (by omega)).trans (by simp only [g13,FB,Nat.reduceEqDiff])
 have f14':fr1 14=.slice (some ⟨G.length+1,0,none⟩) P.length (loose 1):=(hfr1 14 (by omega)).trans (by simp only [FB,Nat.reduceEqDiff])
 rw [←hstep] at k2
 refine Ret_pad ?_
 simp only [n23,r23,f13',f14',w1,SB,Nat.reduceLT,callee,aOp,ne_eq,Nat.reduceEqDiff,aBin,aUn,if_true,if_false,reduceCtorEq,frame0,place,notTuple,Nat.reduceAdd,Nat.reduceLeDiff,resVal,dite_true,dite_false,Int.reduceEq,Int.reduceLT,Int.reduceLE]
 exact hN (i+1,G.length+1) _ _ ⟨by show i+1≤k;omega,(hC.app.trans' hC1 fun j hj hjl=>by simp at hj;omega).app,(Ext.refl.app).cells (hC1.cells ((Ext.refl.app).cells b5) (by have:=hget_alive b5;simp;omega)),(Ext.refl.app).cells k2,by show H.length≤G.length+1;omega,(by simp only [f14',FB,Nat.reduceEqDiff]),(by simp only [FB,Nat.reduceEqDiff]),fun j hj=>by
  rw [←hfr j hj,←f4' j hj]
  simp only [upd]
  repeat rw [if_neg (by omega)]⟩ (by show k-(i+1)<k-i;omega)
theorem early_ok [OB] {lim cp cl k:Nat} {pp pl:Option Addr} {P:List Int} {L:List Leg} {p r ul:Int} {H:Heap} {Q:Value→Heap→Prop} (hn:NetIn H pp pl P L) (hv:validN P L=0) (hp:p∈P) (hr:0≤r) (hru:r≤ul) (hul:ul<2 ^ 40) (hk:k<2 ^ 60) (hlim:lim≤H.length)
  (hQ:∀G q,Chg [] H G→Own H.length G encI 1 q (loose 1) (arrK P.length (posN P) ul L p r k)→Q (.slice q P.length (loose 1)) G) :
  CallR E false lim 23 [.agg (netV pp P.length cp pl L.length cl).toArray,.int .i64 p,.int .i64 r,.int .i64 ul,.int .i64 (k:Int)] H Q:=by
 refine runs' (by decide) e23 rfl ?_
 rw [b23,c23]
 obtain ⟨h50,h200,_⟩:=validN_0 hv
 have hno:=valid_net hv
 simp only [n23,r23,SB,Nat.reduceLT,callee,aOp,ne_eq,Nat.reduceEqDiff,aBin,aUn,if_true,if_false,reduceCtorEq,frame0,place,notTuple,Nat.reduceAdd,Nat.reduceLeDiff,resVal,dite_true,dite_false,Int.reduceEq,Int.reduceLT,Int.reduceLE]
 refine fill_loop (A5:=H.length) (cp:=cp) (cl:=cl) (P:=P) (L:=L) (pp:=pp) (pl:=pl) h50 hlim Chg.refl.app hget_new0 (Nat.le_refl _) (by simp only [FB,Nat.reduceEqDiff]) (by simp only [FB,Nat.reduceEqDiff]) (by rfl) fun fr1 G1 q cq hC1 hO1 f11 hfr1=>?_
 have hC1':Chg [] H G1:=hC1.pre
 have hpl:=List.length_pos_of_mem hp
 have hpp:posN P p<P.length:=List.idxOf_lt_length_of_mem hp
 rcases hO1 with ⟨h,_⟩ | ⟨R,rfl,rfl,hR1,hlR⟩
 ·have:=congrArg List.length h;rw [List.length_replicate,List.length_nil] at this;omega
 have hlR':H.length+1≤R:=by simpa using hlR
 have b5:hget G1 H.length=.cells false (netV pp P.length cp pl L.length cl):=hC1.cells hget_new0 (by simp)
 have b5X:=fun X=>(Ext.refl.app (X:=X)).cells b5
 have hn1:=hn.ext hC1'.ext
 have hp1:∀(X:Heap) (mp:Bool) (lim:Nat) (Q:Value→Heap→Prop),CallR E mp lim 37 [.agg (netV pp P.length cp pl L.length cl).toArray,.int .i64 p] (G1++X) Q=Q (.int .i64 (posN P p:Int)) (G1++X):=fun X mp lim Q=>by
  have:=rplace_ok (mp:=mp) (lim:=lim) (cp:=cp) (cl:=cl) (p:=p) (Q:=Q) (hn1.app X)
  rw [placeN,if_pos hp] at this
  exact this
 have sN:Sl G1 encI 1 (some ⟨R,0,none⟩) (List.replicate P.length (-1)):=Sl.row encI_len hR1
 have xN:=ix_ints (i:=posN P p) sN hpp (by simp)
 obtain ⟨G2,e2,k2,m2⟩:=store_mut (lim:=lim) (p:=some ⟨R,0,none⟩) (i:=posN P p) encI_len rfl hR1 (by omega) (by simpa using hpp) r
 simp only [encI] at e2
 have hC2:Chg [] H G2:=hC1'.mut m2 (.inr (by omega))
 have f1:=(hfr1 1 (by decide)).trans (by rfl:_=Value.int .i64 p)
 have f2:=(hfr1 2 (by decide)).trans (by rfl:_=Value.int .i64 r)
 have f3:=(hfr1 3 (by decide)).trans (by rfl:_=Value.int .i64 ul)
 have f4:=(hfr1 4 (by decide)).trans (by rfl:_=Value.int .i64 (k:Int))
 have f5:fr1 5=.pointer (some ⟨H.length,0,none⟩):=(hfr1 5 (by decide)).trans (by simp only [FB,Nat.reduceEqDiff])
 refine Ret_pad ?_
 simp only [n23,r23,f1,f2,f5,f11,b5X,netV_len,netV_0,netV_1,take_all,hp1,xN,e2,SB,Nat.reduceLT,callee,aOp,ne_eq,Nat.reduceEqDiff,aBin,aUn,if_true,if_false,reduceCtorEq,frame0,place,notTuple,Nat.reduceAdd,Nat.reduceLeDiff,resVal,dite_true,dite_false,Int.reduceEq,Int.reduceLT,Int.reduceLE]
 refine rounds_loop (A5:=H.length) (cp:=cp) (cl:=cl) (k:=k) (R0:=R) (p:=p) (r:=r) (ul:=ul) hn hno h50 (by omega) hp hr hru hul hk hlim hC2.app ((Ext.refl.app).cells (m2.cells b5 (by omega))) (Nat.le_refl _) ((Ext.refl.app).cells k2) (by omega) (by simp only [f3,FB,Nat.reduceEqDiff]) (by simp only [f4,FB,Nat.reduceEqDiff]) (by simp only [f5,FB,Nat.reduceEqDiff]) (by simp only [f11,FB,Nat.reduceEqDiff]) (by rfl) fun fr2 G3 R2 hC3 h3 hlR3 g11=>?_
 refine Ret_pad ?_
 simp only [n23,r23,g11,SB,Nat.reduceLT,callee,aOp,ne_eq,Nat.reduceEqDiff,aBin,aUn,if_true,if_false,reduceCtorEq,frame0,place,notTuple,Nat.reduceAdd,Nat.reduceLeDiff,resVal,dite_true,dite_false,Int.reduceEq,Int.reduceLT,Int.reduceLE]
 exact hQ _ _ hC3.app (.inr ⟨R2,rfl,rfl,(Ext.refl.app).cells h3,hlR3⟩)
theorem RArrive_ok [OB] {lim cp cl:Nat} {pp pl:Option Addr} {P:List Int} {L:List Leg} {p t:Int} {H:Heap} {Q:Value→Heap→Prop} (hn:NetIn H pp pl P L) (hlim:lim≤H.length)
  (hbad:∀G,errA P L p p t≠0→Chg [] H G→Q (.tuple #[.slice none 0 0,.int .i64 (errA P L p p t)]) G)
  (hok:∀G q,errA P L p p t=0→Chg [] H G→Own H.length G encI 1 q (loose 1) (arrK P.length (posN P) (t+86400) L p t P.length)→Q (.tuple #[.slice q P.length (loose 1),.int .i64 0]) G) :
  CallR E false lim 10 [.agg (netV pp P.length cp pl L.length cl).toArray,.int .i64 p,.int .i64 t] H Q:=by
 refine runs' (by decide) e10 rfl ?_
 rw [b10,c10]
 have hck:=fun X (mp:Bool) (lim:Nat) (Q:Value→Heap→Prop)=>rcheck_ok (mp:=mp) (lim:=lim) (cp:=cp) (cl:=cl) (a:=p) (b:=p) (t:=t) (Q:=Q) (hn.app X)
 by_cases he:errA P L p p t=0
 case neg=>
  simp only [n10,r10,netV_len,netV_0,netV_1,take_all,hck,eq_false he,SB,Nat.reduceLT,callee,aOp,ne_eq,Nat.reduceEqDiff,aBin,aUn,if_true,if_false,reduceCtorEq,frame0,place,notTuple,Nat.reduceAdd,Nat.reduceLeDiff,resVal,dite_true,dite_false,Int.reduceEq,Int.reduceLT,Int.reduceLE]
  exact hbad _ he Chg.refl.app
 obtain ⟨hv,hp,_,ht0,ht1⟩:=errA_0 he
 have mt:maxTime=1051898399:=rfl
 have w1:IntKind.i64.wrap (t+86400)=t+86400:=wrap_id (by omega) (by omega)
 rw [he] at hck
 simp only [n10,r10,netV_len,netV_0,netV_1,take_all,hck,w1,SB,Nat.reduceLT,callee,aOp,ne_eq,Nat.reduceEqDiff,aBin,aUn,if_true,if_false,reduceCtorEq,frame0,place,notTuple,Nat.reduceAdd,Nat.reduceLeDiff,resVal,dite_true,dite_false,Int.reduceEq,Int.reduceLT,Int.reduceLE]
 refine early_ok (hn.app _) hv hp ht0 (by omega) (by omega) (by have:=(validN_0 hv).1;omega) (by simp;omega) fun G q hC hO=>?_
 refine Ret_pad ?_
 simp only [n10,r10,SB,Nat.reduceLT,callee,aOp,ne_eq,Nat.reduceEqDiff,aBin,aUn,if_true,if_false,reduceCtorEq,frame0,place,notTuple,Nat.reduceAdd,Nat.reduceLeDiff,resVal,dite_true,dite_false,Int.reduceEq,Int.reduceLT,Int.reduceLE]
 exact hok _ _ he hC.pre.app ((hO.le (by simp)).app _)
end Go.Proofs.Ytfedceicnjnefac.Fn

namespace Go.Net
set_option maxRecDepth 100000
set_option linter.unusedVariables false
set_option linter.unusedSimpArgs false
def LegGives (L:List Leg) (q dl:Int) (l:Leg) (u:Int):Prop:=∃a,Dep l a∧u=a-l.cut∧dl-86400≤u∧∃j v,v≤dl∧Way L j l.dst (a+l.mins) q v
def LegsGive (L M:List Leg) (p q dl u:Int):Prop:=∃l∈M,l.frm=p∧LegGives L q dl l u
theorem LegGives.nonneg {L:List Leg} {q dl u:Int} {l:Leg} (h:LegGives L q dl l u):0≤u:=by
 obtain ⟨a,h1,rfl,_⟩:=h
 exact h1.ready
theorem IsMax.empty {S:Int→Prop} (h:∀u,¬S u):IsMax S (-1):=.inl ⟨rfl,h⟩
theorem lat_of {L:List Leg} {p q dl v:Int} (hL:∀l∈L,Fine l) (hpq:p≠q) (h:IsMax (LegsGive L L p q dl) v):IsLat L q dl p v:=by
 refine h.dom (fun u ⟨l,hl,hf,a,hd,hu,hlow,j,w,hw,hway⟩=>?_) (fun u ⟨h0,hlow,j,w,hw,hway⟩=>?_)
 ·subst hu
  exact ⟨hd.ready,hlow,j+1,w,hw,.cons hl hf hd (Int.le_refl _) hway⟩
 ·cases j with
  | zero=>cases hway;exact absurd rfl hpq
  | succ j=>
    obtain ⟨l,hl,a,hf,hd,ha,hw'⟩:=hway.head
    exact ⟨a-l.cut,ha,l,hl,hf,a,hd,rfl,by omega,j,w,hw,hw'⟩
def DayGives (L:List Leg) (q dl:Int) (l:Leg) (day:Int) (u:Int):Prop:=∃d:Nat,day<(d:Int)∧d<dayN∧goes l d=true∧u=1440*(d:Int)+l.dep-l.cut∧dl-86400≤u∧∃j v,v≤dl∧Way L j l.dst (1440*(d:Int)+l.dep+l.mins) q v
theorem DayGives.leg {L:List Leg} {q dl day u:Int} {l:Leg} (h:DayGives L q dl l day u):LegGives L q dl l u:=by
 obtain ⟨d,_,h1,h2,h3,h4,h5⟩:=h
 exact ⟨1440*(d:Int)+l.dep,⟨d,h1,h2,rfl⟩,h3,h4,h5⟩
theorem LegGives.day {L:List Leg} {q dl u:Int} {l:Leg} (h:LegGives L q dl l u):DayGives L q dl l (-1) u:=by
 obtain ⟨a,⟨d,h1,h2,rfl⟩,h3,h4,h5⟩:=h
 exact ⟨d,by omega,h1,h2,h3,h4,h5⟩
theorem day_none {L:List Leg} (hL:∀l∈L,Fine l) {q dl u:Int} {l:Leg} (hl:Fine l) (hdl:0≤dl):¬DayGives L q dl l (dl / 1440) u:=by
 rintro ⟨d,h0,h1,h2,h3,h4,j,v,hv,hw⟩
 have:=hw.later hL
 unfold Fine at hl
 omega
theorem day_step {L:List Leg} {q dl u:Int} {l:Leg} {d:Nat}:DayGives L q dl l ((d:Int)-1) u↔DayGives L q dl l (d:Int) u∨(d<dayN∧goes l d=true∧u=1440*(d:Int)+l.dep-l.cut∧dl-86400≤u∧∃j v,v≤dl∧Way L j l.dst (1440*(d:Int)+l.dep+l.mins) q v):=by
 constructor
 ·rintro ⟨e,h0,h⟩
  by_cases he:e=d
  ·subst he;exact .inr h
  ·exact .inl ⟨e,by omega,h⟩
 ·rintro (⟨e,h0,h⟩ | h)
  ·exact ⟨e,by omega,h⟩
  ·exact ⟨d,by omega,h⟩
theorem day_end {L:List Leg} {q dl day best:Int} {l:Leg} {S:Int→Prop} (h0:∀u,S u→0≤u) (h:IsMax (fun u=>S u∨DayGives L q dl l day u) best) (hb:-1≤best)
  (hend:¬(0≤day)∨day*1440+l.dep-l.cut≤best∨86400<dl-(day*1440+l.dep-l.cut)):IsMax (fun u=>S u∨LegGives L q dl l u) best:=by
 refine h.dom (fun u hu=>hu.elim .inl fun h=>.inr h.leg) (fun u hu=>?_)
 rcases hu with hu | hu
 ·exact ⟨u,Int.le_refl _,.inl hu⟩
 ·obtain ⟨d,h1,h2,h3,h4,h5,h6⟩:=hu.day
  by_cases hd:day<(d:Int)
  ·exact ⟨u,Int.le_refl _,.inr ⟨d,hd,h2,h3,h4,h5,h6⟩⟩
  ·rcases hend with h7 | h7 | h7
   ·omega
   ·have hu0:=hu.nonneg
    have hub:u≤best:=by omega
    exact ⟨best,hub,h.mem (by omega)⟩
   ·omega
theorem day_up {L:List Leg} {q dl best:Int} {l:Leg} {d:Nat} {S:Int→Prop} (h:IsMax (fun u=>S u∨DayGives L q dl l (d:Int) u) best) (hb:-1≤best)
  (hgt:best<1440*(d:Int)+l.dep-l.cut) (hg:d<dayN∧goes l d=true∧dl-86400≤1440*(d:Int)+l.dep-l.cut∧∃j v,v≤dl∧Way L j l.dst (1440*(d:Int)+l.dep+l.mins) q v) :
  IsMax (fun u=>S u∨DayGives L q dl l ((d:Int)-1) u) (1440*(d:Int)+l.dep-l.cut):=by
 refine .inr ⟨.inr (day_step.2 (.inr ⟨hg.1,hg.2.1,rfl,hg.2.2⟩)),fun u hu=>?_⟩
 rcases hu with hu | hu
 ·have:=h.ge (u:=u) (.inl hu);omega
 ·rcases day_step.1 hu with hu | ⟨_,_,hu,_⟩
  ·have:=h.ge (u:=u) (.inr hu);omega
  ·omega
theorem day_keep {L:List Leg} {q dl best:Int} {l:Leg} {d:Nat} {S:Int→Prop} (h:IsMax (fun u=>S u∨DayGives L q dl l (d:Int) u) best)
  (hno:¬(d<dayN∧goes l d=true∧dl-86400≤1440*(d:Int)+l.dep-l.cut∧∃j v,v≤dl∧Way L j l.dst (1440*(d:Int)+l.dep+l.mins) q v)) :
  IsMax (fun u=>S u∨DayGives L q dl l ((d:Int)-1) u) best:=by
 refine h.congr fun u=>⟨fun hu=>hu.elim .inl fun h=>.inr (day_step.2 (.inl h)),fun hu=>hu.elim .inl fun h=>?_⟩
 rcases day_step.1 h with h | ⟨h1,h2,rfl,h4⟩
 ·exact .inr h
 ·exact absurd ⟨h1,h2,h4⟩ hno
theorem legs_step {L:List Leg} {p q dl best:Int} {i:Nat} (hi:i<L.length):IsMax (LegsGive L (L.take (i+1)) p q dl) best↔IsMax (fun u=>LegsGive L (L.take i) p q dl u∨(L[i].frm=p∧LegGives L q dl L[i] u)) best:=by
 have e:∀u,LegsGive L (L.take (i+1)) p q dl u↔LegsGive L (L.take i) p q dl u∨(L[i].frm=p∧LegGives L q dl L[i] u):=fun u=>by
  rw [List.take_succ_eq_append_getElem hi]
  unfold LegsGive
  constructor
  ·rintro ⟨l,hl,h⟩
   rcases List.mem_append.1 hl with hl | hl
   ·exact .inl ⟨l,hl,h⟩
   ·rw [List.mem_singleton] at hl;subst hl;exact .inr h
  ·rintro (⟨l,hl,h⟩ | h)
   ·exact ⟨l,List.mem_append_left _ hl,h⟩
   ·exact ⟨L[i],List.mem_append_right _ (by simp),h⟩
 exact ⟨fun h=>h.congr e,fun h=>h.congr fun u=>(e u).symm⟩
def CanGo (L:List Leg) (q e:Int) (k:Nat) (p t:Int) (l:Leg) (a:Int):Prop:=l∈L∧l.frm=p∧nextD l t=some a∧a+l.mins≤e∧∃j,j≤k∧∃v,v≤e∧Way L j l.dst (a+l.mins) q v
def Lowest (L:List Leg) (q e:Int):Nat→Int→Int→List (Leg×Int)→Prop
 | 0,_,_,w=>w=[]
 | k+1,p,t,w=>∃l a w',w=(l,a)::w'∧CanGo L q e k p t l a∧(∀l' a',CanGo L q e k p t l' a'→l.id≤l'.id)∧Lowest L q e k l.dst (a+l.mins) w'
def Just (L:List Leg) (q e:Int) (k:Nat) (p t:Int):Prop:=(∃v,v≤e∧Way L k p t q v)∧∀j v,Way L j p t q v→v≤e→k≤j
theorem Just.can {L:List Leg} (hL:∀l∈L,Fine l) {q e p t:Int} {k:Nat} (h:Just L q e (k+1) p t):∃l a,CanGo L q e k p t l a:=by
 obtain ⟨⟨v,hv,hw⟩,_⟩:=h
 obtain ⟨l,hl,a,hf,hd,ha,hw'⟩:=hw.head
 cases hx:nextD l t with
 | none=>have:=nextD_none hx a hd;omega
 | some b=>
   obtain ⟨q1,q2,q3⟩:=nextD_some hx
   have hba:=q3 a hd ha
   have hlat:=hw'.later hL
   refine ⟨l,b,hl,hf,hx,by omega, ?_⟩
   rcases hw'.early (t':=b+l.mins) (by omega) with ⟨rfl,e1,e2⟩ | h
   ·exact ⟨0,Nat.zero_le _,b+l.mins,by omega,by rw [e1];exact .nil _ _⟩
   ·exact ⟨k,Nat.le_refl _,v,hv,h⟩
theorem Just.step {L:List Leg} {q e p t a:Int} {k:Nat} {l:Leg} (h:Just L q e (k+1) p t) (hc:CanGo L q e k p t l a):Just L q e k l.dst (a+l.mins):=by
 obtain ⟨hl,hf,hx,hle,j,hj,v,hv,hw⟩:=hc
 obtain ⟨q1,q2,q3⟩:=nextD_some hx
 have few:∀j v,Way L j l.dst (a+l.mins) q v→v≤e→k≤j:=fun i u hi hu=>by
  have:=h.2 (i+1) u (.cons hl hf q1 q2 hi) hu
  omega
 have:=few j v hw hv
 obtain rfl:j=k:=by omega
 exact ⟨⟨v,hv,hw⟩,few⟩
theorem Lowest.spec {L:List Leg} (hL:∀l∈L,Fine l) (hid:∀a∈L,∀b∈L,a.id=b.id→a=b) {q e:Int}:∀{k:Nat} {p t:Int} {w:List (Leg×Int)},Lowest L q e k p t w→Just L q e k p t→
  w.length=k∧(∃v,v≤e∧IsWay L p t w q v)∧Nexts t w∧∀w' t' v',t≤t'→IsWay L p t' w' q v'→v'≤e→w'.length=k→¬lexL (idsW w') (idsW w)
 | 0,p,t,w,h,hj=>by
   cases h
   obtain ⟨v,hv,hw⟩:=hj.1
   cases hw
   exact ⟨rfl,⟨_,hv,rfl,rfl⟩,trivial,fun w' t' v' _ _ _ hl=>by cases w' with | nil=>exact fun h=>h | cons=>simp at hl⟩
 | k+1,p,t,w,h,hj=>by
   obtain ⟨l,a,w1,rfl,hc,hleast,hrest⟩:=h
   obtain ⟨i1,⟨v,hv,i2⟩,i3,i4⟩:=Lowest.spec hL hid hrest (hj.step hc)
   obtain ⟨hl,hf,hx,hle,_⟩:=hc
   obtain ⟨q1,q2,q3⟩:=nextD_some hx
   refine ⟨by simp [i1],⟨v,hv,hl,hf,q1,q2,i2⟩,⟨hx,i3⟩,fun w' t' v' htt hw' hv' hlen=>?_⟩
   cases w' with
   | nil=>simp at hlen
   | cons y w'=>
     obtain ⟨l',a'⟩:=y
     obtain ⟨h1,h2,h3,h4,h5⟩:=hw'
     have hlen':w'.length=k:=by simpa using hlen
     have hlat:=h5.way.later hL
     intro hlex
     simp only [idsW,List.map_cons,lexL] at hlex
     cases hx':nextD l' t with
     | none=>have:=nextD_none hx' a' h3;omega
     | some b=>
       obtain ⟨g1,g2,g3⟩:=nextD_some hx'
       have hba:=g3 a' h3 (by omega)
       have hcan:CanGo L q e k p t l' b:=by
        refine ⟨h1,h2,hx',by omega, ?_⟩
        rcases h5.way.early (t':=b+l'.mins) (by omega) with ⟨e0,e1,e2⟩ | h
        ·exact ⟨0,Nat.zero_le _,b+l'.mins,by omega,by rw [e1];exact .nil _ _⟩
        ·exact ⟨w'.length,by omega,v',hv',h⟩
       have hge:=hleast l' b hcan
       rcases hlex with hlt | ⟨heq,hlt⟩
       ·omega
       ·have hll:=hid l' h1 l hl heq
        subst hll
        rw [hx] at hx'
        cases hx'
        exact i4 w' (a'+l'.mins) v' (by omega) h5 hv' hlen' hlt
theorem Lowest.best {L:List Leg} (hL:∀l∈L,Fine l) (hid:∀a∈L,∀b∈L,a.id=b.id→a=b) {p q ready v:Int} {k:Nat} {w:List (Leg×Int)} (hv:IsArr L p ready q v) (hv0:0≤v) (h:Lowest L q v k p ready w) (hj:Just L q v k p ready):BestW L p ready q v w:=by
 obtain ⟨i1,⟨u,hu,i2⟩,i3,i4⟩:=h.spec hL hid hj
 have hlim:=(hv.ge hL hv0).2
 have e:u=v:=by
  have:=hv.le (u:=u) ⟨⟨_,i2.way⟩,by omega⟩
  omega
 subst e
 exact ⟨i2,fun j v' hw hv'=>by rw [i1];exact hj.2 j v' hw hv',fun w' v' hw' hv' hl=>i4 w' ready v' (Int.le_refl _) hw' hv' (by omega),i3⟩
end Go.Net

namespace Go.Proofs.Ytfedceicnjnefac.Fn
open Go.AM Go.AM.Sym Go.Net
set_option maxRecDepth 100000
set_option linter.unusedVariables false
set_option linter.unusedSimpArgs false
set_option maxHeartbeats 4000000
theorem onDay_cases {l:Leg} {n:Nat}:(onDay l (n:Int)=none∧¬(n<dayN∧goes l n=true))∨(onDay l (n:Int)=some (1440*(n:Int)+l.dep,1440*(n:Int)+l.dep+l.mins)∧n<dayN∧goes l n=true):=by
 have dn:=dayN_eq
 unfold onDay depOn
 by_cases h:n<730485
 ·rw [if_pos ⟨by omega,by omega⟩,Int.toNat_natCast]
  by_cases hg:goes l n=true
  ·rw [if_pos hg];exact .inr ⟨rfl,by omega,hg⟩
  ·rw [if_neg hg];exact .inl ⟨rfl,fun h=>hg h.2⟩
 ·rw [if_neg (by omega)]
  exact .inl ⟨rfl,fun h=>by omega⟩
theorem days_loop [OB] {lim A R cp cl:Nat} {pp pl:Option Addr} {P:List Int} {L:List Leg} {q dl b0:Int} {l:Leg} {S:Int→Prop} {H G0:Heap} {fr:Nat→Value} {K:List AItem} {Z:Value→Heap→Prop} (hn:NetIn H pp pl P L) (hv:validN P L=0) (hl:l∈L) (hq:q∈P) (h0:0≤dl) (h1:dl≤maxTime) (hlim:lim≤H.length) (hC0:Chg [] H G0)
  (hA:hget G0 A=.cells false (netV pp P.length cp pl L.length cl)) (hB:hget G0 R=.cells false (encL l)) (hS0:∀u,S u→0≤u) (hb0:-1≤b0) (hb1:b0≤dl) (hm:IsMax S b0)
  (f2:fr 2=.int .i64 q) (f3:fr 3=.int .i64 dl) (f4:fr 4=.pointer (some ⟨A,0,none⟩)) (f9:fr 9=.int .i64 b0) (f11:fr 11=.pointer (some ⟨R,0,none⟩)) (f12:fr 12=.int .i64 (dl / 1440))
  (hK:∀fr' G b,Chg [] G0 G→IsMax (fun u=>S u∨LegGives L q dl l u) b→-1≤b→b≤dl→fr' 9=.int .i64 b→(∀j,j≤4→fr' j=fr j)→fr' 10=fr 10→Ret E a28 lim K fr' G Z) :
  Ret E a28 lim (.code (.loop l28_1)::.inBlock 2::K) fr G0 Z:=by
 have hno:=valid_net hv
 obtain ⟨v1,v2,v3,v4⟩:=validN_0 hv
 have hF:=hno.fine _ hl
 have hF':=hF
 unfold Fine at hF'
 have hd:=hno.dst _ hl
 have mt:maxTime=1051898399:=rfl
 obtain ⟨n0,hn0⟩:∃n0:Nat,dl / 1440=(n0:Int)-1:=⟨(dl / 1440+1).toNat,by omega⟩
 refine Ret_rounds (fun s:Nat×Int=>s.1) (fun s fr' G=>s.1≤n0∧Chg [] G0 G∧fr' 9=.int .i64 s.2∧fr' 12=.int .i64 ((s.1:Int)-1)∧fr' 11=.pointer (some ⟨R,0,none⟩)∧(∀j,j≤4→fr' j=fr j)∧fr' 10=fr 10∧IsMax (fun u=>S u∨DayGives L q dl l ((s.1:Int)-1) u) s.2∧-1≤s.2∧s.2≤dl) (n0,b0)
  ⟨Nat.le_refl _,Chg.refl,f9,by rw [f12,hn0],f11,fun _ _=>rfl,rfl,by
   refine hm.congr fun u=>⟨.inl,fun hu=>hu.elim id fun h=>?_⟩
   rw [←hn0] at h
   exact absurd h (day_none hno.fine hF h0),hb0,hb1⟩ ?_
 rintro ⟨m,b⟩ fr' G ⟨hmn,hC,g9,g12,g11,hfr,g10,hM,hlo,hhi⟩ hN
 simp only at hmn g9 g12 hM hlo hhi
 rw [Ret_code l28_1.eq_1]
 have g2:=(hfr 2 (by decide)).trans f2
 have g3:=(hfr 3 (by decide)).trans f3
 have g4:=(hfr 4 (by decide)).trans f4
 have hCH:=hC0.trans hC
 have hlG:=hCH.len
 have hlL:lim≤G.length:=by omega
 have bA:=hC.cells hA (by simp)
 have bB:=hC.cells hB (by simp)
 have bAX:=fun X=>(Ext.refl.app (X:=X)).cells bA
 have bBX:=fun X=>(Ext.refl.app (X:=X)).cells bB
 have hnG:=hn.ext hCH.ext
 have hfr':∀(f:Nat→Value),(∀j,j≤4→f j=fr' j)→∀j,j≤4→f j=fr j:=fun f h j hj=>(h j hj).trans (hfr j hj)
 refine Ret_pad ?_
 cases m with
 | zero=>
   have g12':fr' 12=.int .i64 (-1):=g12
   simp only [n28,r28,g2,g3,g4,g9,g11,g12',bAX,bBX,netV_len,netV_0,netV_1,encL_len,encL_0,encL_1,encL_2,encL_3,encL_4,encL_5,encL_6,encL_7,take_all,eq_false (show ¬(0:Int)≤-1 by decide),SB,Nat.reduceLT,callee,aOp,ne_eq,Nat.reduceEqDiff,aBin,aUn,if_true,if_false,reduceCtorEq,frame0,place,notTuple,Nat.reduceAdd,Nat.reduceLeDiff,resVal,dite_true,dite_false,Int.reduceEq,Int.reduceLT,Int.reduceLE]
   exact hK _ _ b hC.app (day_end hS0 hM hlo (by omega)) hlo hhi (by simp only [g9,FB,Nat.reduceEqDiff]) (hfr' _ fun j hj=>(by simp only [upd];repeat rw [if_neg (by omega)])) (by simp only [g10,FB,Nat.reduceEqDiff])
 | succ n=>
 have e1:((n+1:Nat):Int)-1=(n:Int):=by omega
 rw [e1] at g12 hM
 have c0:=eq_true (show (0:Int)≤(n:Int) by omega)
 have w1:IntKind.i64.wrap ((n:Int)*1440)=1440*(n:Int):=by rw [wrap_id (by omega) (by omega)];omega
 have w2:IntKind.i64.wrap (1440*(n:Int)+l.dep)=1440*(n:Int)+l.dep:=wrap_id (by omega) (by omega)
 have w3:IntKind.i64.wrap (1440*(n:Int)+l.dep-l.cut)=1440*(n:Int)+l.dep-l.cut:=wrap_id (by omega) (by omega)
 have w4:IntKind.i64.wrap (dl-(1440*(n:Int)+l.dep-l.cut))=dl-(1440*(n:Int)+l.dep-l.cut):=wrap_id (by omega) (by omega)
 have w5:IntKind.i64.wrap ((n:Int)-1)=(n:Int)-1:=wrap_id (by omega) (by omega)
 by_cases c1:b<1440*(n:Int)+l.dep-l.cut
 case neg=>
  simp only [n28,r28,hlL,g2,g3,g4,g9,g11,g12,bAX,bBX,netV_len,netV_0,netV_1,encL_len,encL_0,encL_1,encL_2,encL_3,encL_4,encL_5,encL_6,encL_7,take_all,c0,w1,w2,w3,w4,eq_false c1,SB,Nat.reduceLT,callee,aOp,ne_eq,Nat.reduceEqDiff,aBin,aUn,if_true,if_false,reduceCtorEq,frame0,place,notTuple,Nat.reduceAdd,Nat.reduceLeDiff,resVal,dite_true,dite_false,Int.reduceEq,Int.reduceLT,Int.reduceLE]
  exact hK _ _ b hC.app (day_end hS0 hM hlo (by omega)) hlo hhi (by simp only [g9,FB,Nat.reduceEqDiff]) (hfr' _ fun j hj=>(by simp only [upd];repeat rw [if_neg (by omega)])) (by simp only [g10,FB,Nat.reduceEqDiff])
 by_cases c2:dl-(1440*(n:Int)+l.dep-l.cut)≤86400
 case neg=>
  simp only [n28,r28,hlL,g2,g3,g4,g9,g11,g12,bAX,bBX,netV_len,netV_0,netV_1,encL_len,encL_0,encL_1,encL_2,encL_3,encL_4,encL_5,encL_6,encL_7,take_all,c0,w1,w2,w3,w4,eq_true c1,eq_false c2,SB,Nat.reduceLT,callee,aOp,ne_eq,Nat.reduceEqDiff,aBin,aUn,if_true,if_false,reduceCtorEq,frame0,place,notTuple,Nat.reduceAdd,Nat.reduceLeDiff,resVal,dite_true,dite_false,Int.reduceEq,Int.reduceLT,Int.reduceLE]
  exact hK _ _ b hC.app (day_end hS0 hM hlo (by omega)) hlo hhi (by simp only [g9,FB,Nat.reduceEqDiff]) (hfr' _ fun j hj=>(by simp only [upd];repeat rw [if_neg (by omega)])) (by simp only [g10,FB,Nat.reduceEqDiff])
 have hon:=fun (H:Heap) (mp:Bool) (lim:Nat) (Q:Value→Heap→Prop)=>ron_ok (mp:=mp) (lim:=lim) (d:=(n:Int)) (H:=H) (Q:=Q) hF
 rcases onDay_cases (l:=l) (n:=n) with ⟨eo,hno1⟩ | ⟨eo,hd1,hd2⟩
 ·have hno2:¬(n<dayN∧goes l n=true∧dl-86400≤1440*(n:Int)+l.dep-l.cut∧∃j v,v≤dl∧Go.Net.Way L j l.dst (1440*(n:Int)+l.dep+l.mins) q v):=fun h=>hno1 ⟨h.1,h.2.1⟩
  rw [eo] at hon
  simp only [depV] at hon
  simp only [n28,r28,hlL,g2,g3,g4,g9,g11,g12,bAX,bBX,netV_len,netV_0,netV_1,encL_len,encL_0,encL_1,encL_2,encL_3,encL_4,encL_5,encL_6,encL_7,take_all,c0,w1,w2,w3,w4,w5,eq_true c1,eq_true c2,hon,setAll_full,SB,Nat.reduceLT,callee,aOp,ne_eq,Nat.reduceEqDiff,aBin,aUn,if_true,if_false,reduceCtorEq,frame0,place,notTuple,Nat.reduceAdd,Nat.reduceLeDiff,resVal,dite_true,dite_false,Int.reduceEq,Int.reduceLT,Int.reduceLE]
  exact hN (n,b) _ _ ⟨by show n≤n0;omega,hC.app,(by simp only [g9,FB,Nat.reduceEqDiff]),(by simp only [FB,Nat.reduceEqDiff]),(by simp only [g11,FB,Nat.reduceEqDiff]),hfr' _ fun j hj=>(by simp only [upd];repeat rw [if_neg (by omega)]),(by simp only [g10,FB,Nat.reduceEqDiff]),day_keep hM hno2,hlo,hhi⟩ (by show n<n+1;omega)
 rw [eo] at hon
 simp only [depV] at hon
 by_cases c3:1440*(n:Int)+l.dep+l.mins≤dl
 case neg=>
  have hno2:¬(n<dayN∧goes l n=true∧dl-86400≤1440*(n:Int)+l.dep-l.cut∧∃j v,v≤dl∧Go.Net.Way L j l.dst (1440*(n:Int)+l.dep+l.mins) q v):=fun ⟨_,_,_,j,v,hv,hw⟩=>by have:=hw.later hno.fine;omega
  simp only [n28,r28,hlL,g2,g3,g4,g9,g11,g12,bAX,bBX,netV_len,netV_0,netV_1,encL_len,encL_0,encL_1,encL_2,encL_3,encL_4,encL_5,encL_6,encL_7,take_all,c0,w1,w2,w3,w4,w5,eq_true c1,eq_true c2,hon,setAll_full,eq_false c3,SB,Nat.reduceLT,callee,aOp,ne_eq,Nat.reduceEqDiff,aBin,aUn,if_true,if_false,reduceCtorEq,frame0,place,notTuple,Nat.reduceAdd,Nat.reduceLeDiff,resVal,dite_true,dite_false,Int.reduceEq,Int.reduceLT,Int.reduceLE]
  exact hN (n,b) _ _ ⟨by show n≤n0;omega,hC.app,(by simp only [g9,FB,Nat.reduceEqDiff]),(by simp only [FB,Nat.reduceEqDiff]),(by simp only [g11,FB,Nat.reduceEqDiff]),hfr' _ fun j hj=>(by simp only [upd];repeat rw [if_neg (by omega)]),(by simp only [g10,FB,Nat.reduceEqDiff]),day_keep hM hno2,hlo,hhi⟩ (by show n<n+1;omega)
 simp only [n28,r28,hlL,g2,g3,g4,g9,g11,g12,bAX,bBX,netV_len,netV_0,netV_1,encL_len,encL_0,encL_1,encL_2,encL_3,encL_4,encL_5,encL_6,encL_7,take_all,c0,w1,w2,w3,w4,w5,eq_true c1,eq_true c2,hon,setAll_full,eq_true c3,SB,Nat.reduceLT,callee,aOp,ne_eq,Nat.reduceEqDiff,aBin,aUn,if_true,if_false,reduceCtorEq,frame0,place,notTuple,Nat.reduceAdd,Nat.reduceLeDiff,resVal,dite_true,dite_false,Int.reduceEq,Int.reduceLT,Int.reduceLE]
 refine early_ok (hnG.app _) hv hd (by omega) c3 (by omega) (by omega) (by simp) fun G2 q2 hC2 hO2=>?_
 have hCG2:Chg [] G G2:=hC2.pre
 have bAX2:=fun X=>(Ext.refl.app (X:=X)).cells (hCG2.cells bA (by simp))
 have bBX2:=fun X=>(Ext.refl.app (X:=X)).cells (hCG2.cells bB (by simp))
 have bDX2:=fun X=>(Ext.refl.app (X:=X)).cells (hC2.cells (j:=G.length) (ro:=false) (c:=[.int .i64 (1440*(n:Int)+l.dep),.int .i64 (1440*(n:Int)+l.dep+l.mins)]) (by rw [hget_new0];rfl) (by simp))
 have hpq:=fun X (mp:Bool) (lim:Nat) (Q:Value→Heap→Prop)=>rplace_ok (mp:=mp) (lim:=lim) (cp:=cp) (cl:=cl) (p:=q) (Q:=Q) ((hnG.ext hCG2.ext).app X)
 rw [placeN,if_pos hq] at hpq
 have hqb:posN P q<P.length:=List.idxOf_lt_length_of_mem hq
 have sT:=hO2.sl encI_len
 have hTl:(arrK P.length (posN P) dl L l.dst (1440*(n:Int)+l.dep+l.mins) P.length).length=P.length:=arrK_len
 have lT:=ld_ints (i:=posN P q) sT (by omega)
 have xT:=ix_ints (i:=posN P q) sT hqb hTl
 have hmin:=early_min (t:=1440*(n:Int)+l.dep+l.mins) hno hd (by omega) c3 hq
 rw [gt_getD (by omega)] at lT
 generalize (arrK P.length (posN P) dl L l.dst (1440*(n:Int)+l.dep+l.mins) P.length).getD (posN P q) (-1)=x at *
 refine Ret_pad ?_
 by_cases hx:0≤x
 ·obtain ⟨⟨j,hw⟩,hle⟩:=hmin.mem hx
  simp only [n28,r28,g2,g3,g4,g9,g11,g12,bAX2,bBX2,bDX2,netV_len,netV_0,netV_1,encL_len,encL_0,encL_1,encL_2,encL_3,encL_4,encL_5,encL_6,encL_7,take_all,hpq,lT,xT,eq_true hx,w3,w5,SB,Nat.reduceLT,callee,aOp,ne_eq,Nat.reduceEqDiff,aBin,aUn,if_true,if_false,reduceCtorEq,frame0,place,notTuple,Nat.reduceAdd,Nat.reduceLeDiff,resVal,dite_true,dite_false,Int.reduceEq,Int.reduceLT,Int.reduceLE]
  exact hN (n,1440*(n:Int)+l.dep-l.cut) _ _ ⟨by show n≤n0;omega,(hC.trans hCG2).app,(by simp only [FB,Nat.reduceEqDiff]),(by simp only [FB,Nat.reduceEqDiff]),(by simp only [g11,FB,Nat.reduceEqDiff]),hfr' _ fun j hj=>(by simp only [upd];repeat rw [if_neg (by omega)]),(by simp only [g10,FB,Nat.reduceEqDiff]),day_up hM hlo c1 ⟨hd1,hd2,by omega,j,x,hle,hw⟩,by show (-1:Int)≤_;omega,by show _≤dl;omega⟩ (by show n<n+1;omega)
 ·have hno2:¬(n<dayN∧goes l n=true∧dl-86400≤1440*(n:Int)+l.dep-l.cut∧∃j v,v≤dl∧Go.Net.Way L j l.dst (1440*(n:Int)+l.dep+l.mins) q v):=fun ⟨_,_,_,j,v,hv,hw⟩=>
   hmin.none (fun u ⟨⟨j,hw⟩,_⟩=>by have:=hw.later hno.fine;omega) (by omega) v ⟨⟨j,hw⟩,hv⟩
  simp only [n28,r28,g2,g3,g4,g9,g11,g12,bAX2,bBX2,bDX2,netV_len,netV_0,netV_1,encL_len,encL_0,encL_1,encL_2,encL_3,encL_4,encL_5,encL_6,encL_7,take_all,hpq,lT,xT,eq_false hx,w3,w5,SB,Nat.reduceLT,callee,aOp,ne_eq,Nat.reduceEqDiff,aBin,aUn,if_true,if_false,reduceCtorEq,frame0,place,notTuple,Nat.reduceAdd,Nat.reduceLeDiff,resVal,dite_true,dite_false,Int.reduceEq,Int.reduceLT,Int.reduceLE]
  exact hN (n,b) _ _ ⟨by show n≤n0;omega,(hC.trans hCG2).app,(by simp only [g9,FB,Nat.reduceEqDiff]),(by simp only [FB,Nat.reduceEqDiff]),(by simp only [g11,FB,Nat.reduceEqDiff]),hfr' _ fun j hj=>(by simp only [upd];repeat rw [if_neg (by omega)]),(by simp only [g10,FB,Nat.reduceEqDiff]),day_keep hM hno2,hlo,hhi⟩ (by show n<n+1;omega)
noncomputable def latV (L:List Leg) (q dl p:Int):Int:=open Classical in if h:∃v,IsLat L q dl p v then h.choose else -1
theorem latV_is {L:List Leg} {q dl p v:Int} (h:IsLat L q dl p v):v=latV L q dl p:=by
 unfold latV
 have hex:∃v,IsLat L q dl p v:=⟨v,h⟩
 rw [dif_pos hex]
 exact h.uniq hex.choose_spec
theorem rlatest_ok [OB] {mp:Bool} {lim cp cl:Nat} {pp pl:Option Addr} {P:List Int} {L:List Leg} {p q dl:Int} {H:Heap} {Q:Value→Heap→Prop} (hn:NetIn H pp pl P L) (hv:validN P L=0) (hq:q∈P) (h0:0≤dl) (h1:dl≤maxTime) :
  CallR E mp lim 28 [.agg (netV pp P.length cp pl L.length cl).toArray,.int .i64 p,.int .i64 q,.int .i64 dl] H Q=Q (.int .i64 (latV L q dl p)) H:=by
 refine pc (by decide) e28 rfl rfl ?_
 rw [b28,c28]
 have hno:=valid_net hv
 obtain ⟨v1,v2,v3,v4⟩:=validN_0 hv
 have mt:maxTime=1051898399:=rfl
 by_cases hpq:p=q
 ·subst hpq
  have hl:IsLat L p dl p dl:=.inr ⟨⟨h0,by omega,0,dl,Int.le_refl _,.nil _ _⟩,fun u ⟨_,_,j,v,hv,hw⟩=>by have:=hw.later hno.fine;omega⟩
  simp only [n28,r28,SB,Nat.reduceLT,callee,aOp,ne_eq,Nat.reduceEqDiff,aBin,aUn,if_true,if_false,reduceCtorEq,frame0,place,notTuple,Nat.reduceAdd,Nat.reduceLeDiff,resVal,dite_true,dite_false,Int.reduceEq,Int.reduceLT,Int.reduceLE]
  rw [←latV_is hl]
 simp only [n28,r28,eq_false hpq,SB,Nat.reduceLT,callee,aOp,ne_eq,Nat.reduceEqDiff,aBin,aUn,if_true,if_false,reduceCtorEq,frame0,place,notTuple,Nat.reduceAdd,Nat.reduceLeDiff,resVal,dite_true,dite_false,Int.reduceEq,Int.reduceLT,Int.reduceLE]
 refine Ret_rounds (fun s:Nat×Int=>L.length-s.1) (fun s fr G=>s.1≤L.length∧Chg [] H G∧fr 1=.int .i64 p∧fr 2=.int .i64 q∧fr 3=.int .i64 dl∧fr 4=.pointer (some ⟨H.length,0,none⟩)∧fr 9=.int .i64 s.2∧fr 10=.int .i64 (s.1:Int)∧hget G H.length=.cells false (netV pp P.length cp pl L.length cl)∧IsMax (LegsGive L (L.take s.1) p q dl) s.2∧-1≤s.2∧s.2≤dl) (0,-1)
  ⟨Nat.zero_le _,Chg.refl.app,(by simp only [FB,Nat.reduceEqDiff]),(by simp only [FB,Nat.reduceEqDiff]),(by simp only [FB,Nat.reduceEqDiff]),(by simp only [FB,Nat.reduceEqDiff]),(by simp only [FB,Nat.reduceEqDiff]),by rfl,hget_new0,.empty fun u ⟨l,hl,_⟩=>by simp at hl,Int.le_refl _,by show (-1:Int)≤dl;omega⟩ ?_
 rintro ⟨i,b⟩ fr G ⟨hi,hC,g1,g2,g3,g4,g9,g10,hA,hM,hlo,hhi⟩ hN
 simp only at hi g9 g10 hM hlo hhi
 rw [Ret_code l28_2.eq_1]
 have bAX:=fun X=>(Ext.refl.app (X:=X)).cells hA
 have hlG:=hC.len
 refine Ret_pad ?_
 by_cases hlt:i<L.length
 case neg=>
  obtain rfl:i=L.length:=by omega
  rw [List.take_length] at hM
  simp only [n28,r28,hlG,g1,g2,g3,g4,g9,g10,bAX,netV_len,netV_0,netV_1,encL_len,encL_0,encL_1,encL_2,encL_3,encL_4,encL_5,encL_6,encL_7,take_all,hlt,SB,Nat.reduceLT,callee,aOp,ne_eq,Nat.reduceEqDiff,aBin,aUn,if_true,if_false,reduceCtorEq,frame0,place,notTuple,Nat.reduceAdd,Nat.reduceLeDiff,resVal,dite_true,dite_false,Int.reduceEq,Int.reduceLT,Int.reduceLE]
  rw [←latV_is (lat_of hno.fine hpq hM)]
 have hnG:=hn.ext hC.ext
 have hll:=gt_mem (l:=L) (i:=i) hlt
 have hstep:=legs_step (p:=p) (q:=q) (dl:=dl) (best:=b) hlt
 have lL:=fun X=>(hnG.sl.app X).loadCells encL_len hlt
 have xL:=fun c (kk:IntKind) (H1:Heap)=>hnG.sl.idx (c:=c) (k:=kk) (H1:=H1) hlt
 have w1:IntKind.i64.wrap ((i:Int)+1)=((i+1:Nat):Int):=wrap_nat (by omega)
 have hday:IntKind.i64.wrap (Int.tdiv dl 1440)=dl / 1440:=by rw [Int.tdiv_eq_ediv_of_nonneg h0,wrap_id (by omega) (by omega)]
 have hstep:=fun (b':Int)=>legs_step (p:=p) (q:=q) (dl:=dl) (best:=b') hlt
 rw [←gt_lt hlt] at hstep
 generalize gt L i=l at *
 by_cases hf:l.frm=p
 case neg=>
  simp only [n28,r28,hlG,g1,g2,g3,g4,g9,g10,bAX,netV_len,netV_0,netV_1,encL_len,encL_0,encL_1,encL_2,encL_3,encL_4,encL_5,encL_6,encL_7,take_all,hlt,lL,xL,w1,setAll_full,eq_false hf,SB,Nat.reduceLT,callee,aOp,ne_eq,Nat.reduceEqDiff,aBin,aUn,if_true,if_false,reduceCtorEq,frame0,place,notTuple,Nat.reduceAdd,Nat.reduceLeDiff,resVal,dite_true,dite_false,Int.reduceEq,Int.reduceLT,Int.reduceLE]
  exact hN (i+1,b) _ _ ⟨by show i+1≤L.length;omega,hC.app,(by simp only [g1,FB,Nat.reduceEqDiff]),(by simp only [g2,FB,Nat.reduceEqDiff]),(by simp only [g3,FB,Nat.reduceEqDiff]),(by simp only [g4,FB,Nat.reduceEqDiff]),(by simp only [g9,FB,Nat.reduceEqDiff]),(by simp only [FB,Nat.reduceEqDiff]),(Ext.refl.app).cells hA,(hstep b).2 (hM.congr fun u=>⟨.inl,fun h=>h.elim id fun h=>absurd h.1 hf⟩),hlo,hhi⟩ (by show L.length-(i+1)<L.length-i;omega)
 simp only [n28,r28,hlG,g1,g2,g3,g4,g9,g10,bAX,netV_len,netV_0,netV_1,encL_len,encL_0,encL_1,encL_2,encL_3,encL_4,encL_5,encL_6,encL_7,take_all,hlt,lL,xL,w1,setAll_full,eq_true hf,hday,SB,Nat.reduceLT,callee,aOp,ne_eq,Nat.reduceEqDiff,aBin,aUn,if_true,if_false,reduceCtorEq,frame0,place,notTuple,Nat.reduceAdd,Nat.reduceLeDiff,resVal,dite_true,dite_false,Int.reduceEq,Int.reduceLT,Int.reduceLE]
 refine days_loop (A:=H.length) (R:=G.length) (cp:=cp) (cl:=cl) (b0:=b) (S:=LegsGive L (L.take i) p q dl) hn hv hll hq h0 h1 (Nat.le_refl _) hC.app ((Ext.refl.app).cells hA) (by rw [hget_new0];rfl) (fun u ⟨l,hl,_,h⟩=>h.nonneg) hlo hhi hM (by simp only [g2,FB,Nat.reduceEqDiff]) (by simp only [g3,FB,Nat.reduceEqDiff]) (by simp only [g4,FB,Nat.reduceEqDiff]) (by simp only [g9,FB,Nat.reduceEqDiff]) (by simp only [FB,Nat.reduceEqDiff]) (by simp only [FB,Nat.reduceEqDiff]) fun fr' G' b' hC' hM' hlo' hhi' g9' hfr' g10'=>?_
 have k1:fr' 1=.int .i64 p:=(hfr' 1 (by decide)).trans (by simp only [g1,FB,Nat.reduceEqDiff])
 have k2:fr' 2=.int .i64 q:=(hfr' 2 (by decide)).trans (by simp only [g2,FB,Nat.reduceEqDiff])
 have k3:fr' 3=.int .i64 dl:=(hfr' 3 (by decide)).trans (by simp only [g3,FB,Nat.reduceEqDiff])
 have k4:fr' 4=.pointer (some ⟨H.length,0,none⟩):=(hfr' 4 (by decide)).trans (by simp only [g4,FB,Nat.reduceEqDiff])
 have k10:fr' 10=.int .i64 (i:Int):=g10'.trans (by simp only [g10,FB,Nat.reduceEqDiff])
 refine Ret_pad ?_
 simp only [n28,r28,k1,k2,k3,k4,g9',k10,w1,SB,Nat.reduceLT,callee,aOp,ne_eq,Nat.reduceEqDiff,aBin,aUn,if_true,if_false,reduceCtorEq,frame0,place,notTuple,Nat.reduceAdd,Nat.reduceLeDiff,resVal,dite_true,dite_false,Int.reduceEq,Int.reduceLT,Int.reduceLE]
 exact hN (i+1,b') _ _ ⟨by show i+1≤L.length;omega,(hC.trans hC'.pre).app,(by simp only [k1,FB,Nat.reduceEqDiff]),(by simp only [k2,FB,Nat.reduceEqDiff]),(by simp only [k3,FB,Nat.reduceEqDiff]),(by simp only [k4,FB,Nat.reduceEqDiff]),(by simp only [g9',FB,Nat.reduceEqDiff]),(by simp only [FB,Nat.reduceEqDiff]),(Ext.refl.app).cells (hC'.cells ((Ext.refl.app).cells hA) (by simp)),(hstep b').2 (hM'.congr fun u=>⟨fun h=>h.elim .inl fun h=>.inr ⟨hf,h⟩,fun h=>h.elim .inl fun h=>.inr h.2⟩),hlo',hhi'⟩ (by show L.length-(i+1)<L.length-i;omega)
theorem latV_spec {P:List Int} {L:List Leg} {q dl p:Int} (hv:validN P L=0) (hq:q∈P) (hp:p∈P) (h0:0≤dl):IsLat L q dl p (latV L q dl p):=by
 have hno:=valid_net hv
 obtain ⟨v1,v2,v3,v4⟩:=validN_0 hv
 obtain ⟨n,_,h,_⟩:=lat_rest (low:=dl-86400) hno hq h0 (by omega)
 have hl:=(lat_all hno v1 hq h0 h).2 p hp
 rw [←latV_is hl];exact hl
theorem RLeave_ok [OB] {lim cp cl:Nat} {pp pl:Option Addr} {P:List Int} {L:List Leg} {q dl:Int} {H:Heap} {Q:Value→Heap→Prop} (hn:NetIn H pp pl P L) (hlim:lim≤H.length)
  (hbad:∀G,errA P L q q dl≠0→Chg [] H G→Q (.tuple #[.slice none 0 0,.int .i64 (errA P L q q dl)]) G)
  (hok:∀G r c T,errA P L q q dl=0→Chg [] H G→latL P L q dl T→Own H.length G encI 1 r c T→Q (.tuple #[.slice r P.length c,.int .i64 0]) G) :
  CallR E false lim 13 [.agg (netV pp P.length cp pl L.length cl).toArray,.int .i64 q,.int .i64 dl] H Q:=by
 refine runs' (by decide) e13 rfl ?_
 rw [b13,c13]
 have hck:=fun X (mp:Bool) (lim:Nat) (Q:Value→Heap→Prop)=>rcheck_ok (mp:=mp) (lim:=lim) (cp:=cp) (cl:=cl) (a:=q) (b:=q) (t:=dl) (Q:=Q) (hn.app X)
 by_cases he:errA P L q q dl=0
 case neg=>
  simp only [n13,r13,netV_len,netV_0,netV_1,take_all,hck,eq_false he,SB,Nat.reduceLT,callee,aOp,ne_eq,Nat.reduceEqDiff,aBin,aUn,if_true,if_false,reduceCtorEq,frame0,place,notTuple,Nat.reduceAdd,Nat.reduceLeDiff,resVal,dite_true,dite_false,Int.reduceEq,Int.reduceLT,Int.reduceLE]
  exact hbad _ he Chg.refl.app
 obtain ⟨hv,hq,_,h0,h1⟩:=errA_0 he
 obtain ⟨v1,v2,v3,v4⟩:=validN_0 hv
 have mt:maxTime=1051898399:=rfl
 rw [he] at hck
 simp only [n13,r13,netV_len,netV_0,netV_1,take_all,hck,SB,Nat.reduceLT,callee,aOp,ne_eq,Nat.reduceEqDiff,aBin,aUn,if_true,if_false,reduceCtorEq,frame0,place,notTuple,Nat.reduceAdd,Nat.reduceLeDiff,resVal,dite_true,dite_false,Int.reduceEq,Int.reduceLT,Int.reduceLE]
 refine Ret_rounds (fun s:List Int×Option Addr×Nat=>P.length-s.1.length) (fun s fr G=>s.1.length≤P.length∧Chg [] H G∧fr 1=.int .i64 q∧fr 2=.int .i64 dl∧fr 3=.pointer (some ⟨H.length,0,none⟩)∧fr 9=.slice s.2.1 s.1.length s.2.2∧fr 10=.int .i64 (s.1.length:Int)∧hget G H.length=.cells false (netV pp P.length cp pl L.length cl)∧Own (H.length+1) G encI 1 s.2.1 s.2.2 s.1∧∀j,j<s.1.length→IsLat L q dl (gt P j) (gt s.1 j)) ([],none,0)
  ⟨Nat.zero_le _,Chg.refl.app,(by simp only [FB,Nat.reduceEqDiff]),(by simp only [FB,Nat.reduceEqDiff]),(by simp only [FB,Nat.reduceEqDiff]),(by simp only [List.length_nil,FB,Nat.reduceEqDiff]),by rfl,hget_new0,.nil,fun j hj=>by simp at hj⟩ ?_
 rintro ⟨T,pw,cw⟩ fr G ⟨hi,hC,g1,g2,g3,g9,g10,hA,hO,hall⟩ hN
 simp only at hi g9 g10 hO hall
 rw [Ret_code l13_1.eq_1]
 have bAX:=fun X=>(Ext.refl.app (X:=X)).cells hA
 have hlG:=hC.len
 refine Ret_pad ?_
 by_cases hlt:T.length<P.length
 case neg=>
  have hTl:T.length=P.length:=by omega
  simp only [n13,r13,g1,g2,g3,g9,g10,bAX,netV_len,netV_0,netV_1,hlt,SB,Nat.reduceLT,callee,aOp,ne_eq,Nat.reduceEqDiff,aBin,aUn,if_true,if_false,reduceCtorEq,frame0,place,notTuple,Nat.reduceAdd,Nat.reduceLeDiff,resVal,dite_true,dite_false,Int.reduceEq,Int.reduceLT,Int.reduceLE]
  rw [hTl]
  refine hok _ _ _ T he hC.app ⟨hTl,fun p hp=>?_⟩ ((hO.le (by omega)).app _)
  have hi:posN P p<P.length:=List.idxOf_lt_length_of_mem hp
  have h:=hall (posN P p) (by omega)
  rw [show gt P (posN P p)=p by rw [gt_lt hi];exact List.getElem_idxOf hi,gt_getD (by omega)] at h
  exact h
 have hnG:=hn.ext hC.ext
 have lL:=ld_ints (i:=T.length) hnG.sp hlt
 have xL:=ix_ints (i:=T.length) hnG.sp hlt rfl
 have w1:IntKind.i64.wrap ((T.length:Int)+1)=((T.length+1:Nat):Int):=wrap_nat (by omega)
 have hla:=fun X (mp:Bool) (lim:Nat) (Q:Value→Heap→Prop)=>rlatest_ok (mp:=mp) (lim:=lim) (cp:=cp) (cl:=cl) (p:=gt P T.length) (Q:=Q) (hnG.app X) hv hq h0 h1
 have hvl:IsLat L q dl (gt P T.length) (latV L q dl (gt P T.length)):=latV_spec hv hq (gt_mem hlt) h0
 generalize latV L q dl (gt P T.length)=v at *
 have hne:∀a,pw=some a→H.length≠a.block:=fun a ha e=>by have:=(hO.block ha).1;omega
 obtain ⟨G4,p',c',e4,O4,C4,K4,hl4,_,_⟩:=Own.moreD hO (lim':=lim) (d:=G.length+1) (bytes:=8) (by omega) encI_len (by decide) [v] (by simp;unfold maxBytes;omega) (by simp;omega) (by have:=hget_alive hA;omega) [.cells false [.int .i64 v],.dead] (by omega) (by simp) (x:=.slice (some ⟨G.length,0,none⟩) 1 1) (str:=false)
  (first_slice (m:=[v]) (Sl.row (ro:=false) encI_len (by rw [hget_new0];rfl))) rfl
 simp only [List.length_cons,List.length_nil,Nat.zero_add,List.append_nil] at e4 O4 C4 K4
 have hC4:=C4 [] H (by omega) hC
 have k4:=(K4 H.length (by have:=hget_alive hA;omega) hne).trans hA
 have e4':aAppend lim (some (G.length+1)) 1 8 false (.slice pw T.length cw) (.slice (some ⟨G.length,0,none⟩) 1 1) (G++[.cells false [.int .i64 v],.dead])=some (.slice p' (T.length+1) c',G4++[]):=by rw [List.append_nil];exact e4
 simp only [n13,r13,g1,g2,g3,g9,g10,bAX,netV_len,netV_0,netV_1,hlt,lL,xL,take_all,hla,e4',w1,SB,Nat.reduceLT,callee,aOp,ne_eq,Nat.reduceEqDiff,aBin,aUn,if_true,if_false,reduceCtorEq,frame0,place,notTuple,Nat.reduceAdd,Nat.reduceLeDiff,resVal,dite_true,dite_false,Int.reduceEq,Int.reduceLT,Int.reduceLE]
 exact hN (T++[v],p',c') _ _ ⟨by simp;omega,hC4.app,(by simp only [g1,FB,Nat.reduceEqDiff]),(by simp only [g2,FB,Nat.reduceEqDiff]),(by simp only [g3,FB,Nat.reduceEqDiff]),by simp only [List.length_append,List.length_cons,List.length_nil,Nat.zero_add];exact (by simp only [FB,Nat.reduceEqDiff]),by simp only [List.length_append,List.length_cons,List.length_nil,Nat.zero_add];exact (by simp only [FB,Nat.reduceEqDiff]),(Ext.refl.app).cells k4,O4.app _,fun j hj=>by
  rw [List.length_append] at hj
  rcases Nat.lt_or_ge j T.length with h | h
  ·rw [gt_append_left h];exact hall j h
  ·obtain rfl:j=T.length:=by simp at hj;omega
   have e:=gt_append_len (l:=T) (r:=[v]) (i:=0)
   rw [Nat.add_zero] at e
   rw [e];exact hvl⟩ (by simp;omega)
end Go.Proofs.Ytfedceicnjnefac.Fn

namespace Go.Proofs.Ytfedceicnjnefac.Fn
open Go.AM Go.AM.Sym Go.Sort
set_option maxRecDepth 100000
set_option linter.unusedVariables false
set_option linter.unusedSimpArgs false
set_option maxHeartbeats 4000000
theorem runs [OB] {g:FuncId} {af:AFunc} {lim:Nat} {as:List Value} {H H':Heap} {v:Value} {Q:Value→Heap→Prop} (h:g≠8∧g≠999) (ht:tr g=some af) (hp:pf g=false) (hr:Ret E af lim [.code af.body] (frame0 as) H fun v' H1=>v'=v∧H1=H'):CallR E false lim g as H Q=Q v H':=by
 refine CallR.eq ?_
 rw [CallR_run (E:=E) (by simp [E,orc,h]) ht hp rfl]
 exact hr
def ltC {α:Type} (c:α→α→Int) (x y:α):Bool:=decide (c x y<0)
theorem ins_ok [OB] {G X:Heap} {B lim cap n:Nat} {p:Option Addr} {c:Go.Net.Leg→Go.Net.Leg→Int} {cl:FuncId} {cs:List Value} {Q:Value→Heap→Prop} (hp:p=some ⟨B,0,none⟩) (hB:B<G.length) (hl:lim≤B) (hn2:n<2 ^ 61) (hc:∀(mp:Bool) (lim:Nat) (x y:Go.Net.Leg) (H:Heap) (Q:Value→Heap→Prop),CallR E mp lim cl (.agg (encL x).toArray::.agg (encL y).toArray::cs) H Q=Q (.int .i64 (c x y)) H) {d:Array Go.Net.Leg} {a b:Nat} (hd:d.size=n) (hb:b≤n) (hab:a≤b) :
  CallR E false lim 65 [.slice p n cap,.int .i64 (a:Int),.int .i64 (b:Int),.func (.func cl) #[] cs.toArray] (DH encL G B d++X) Q=Q (.tuple #[]) (DH encL G B (insertionSort (ltC c) d a b)++X):=by
 refine runs (by decide) e65 rfl ?_
 rw [b65,c65]
 have hw0:IntKind.i64.wrap ((a:Int)+1)=((a+1:Nat):Int):=wrap_nat (by omega)
 simp only [n65,r65,hw0,SB,Nat.reduceLT,callee,aOp,ne_eq,Nat.reduceEqDiff,aBin,aUn,if_true,if_false,reduceCtorEq,frame0,place,notTuple,Nat.reduceAdd,Nat.reduceLeDiff,resVal,dite_true,dite_false,Int.reduceEq,Int.reduceLT,Int.reduceLE]
 refine Ret_rounds (S:=Nat×Array Go.Net.Leg) (fun s=>b+1-s.1) (fun s fr H=>a≤s.1∧s.1≤b+1∧fr 0=.slice p n cap∧fr 1=.int .i64 (a:Int)∧fr 2=.int .i64 (b:Int)∧fr 3=.func (.func cl) #[] cs.toArray∧fr 8=.int .i64 (s.1:Int)∧
  H=DH encL G B s.2++X∧s.2.size=n∧insertionSort (ltC c) d a b=insOuter (ltC c) a b s.1 s.2) (a+1,d) ⟨by simp,by simp;omega,(by simp only [FB,Nat.reduceEqDiff]),(by simp only [FB,Nat.reduceEqDiff]),(by simp only [FB,Nat.reduceEqDiff]),(by simp only [FB,Nat.reduceEqDiff]),(by simp only [FB,Nat.reduceEqDiff]),rfl,hd,rfl⟩ ?_
 rintro ⟨i,d1⟩ fr H ⟨h1,h2,g0,g1,g2,g3,g8,rfl,hd1,he⟩ hN
 simp only at h1 h2 g8 hd1 he
 rw [Ret_code l65_2.eq_1]
 unfold insOuter at he
 by_cases hib:i<b
 ·rw [if_pos hib] at he
  simp only [n65,r65,g0,g1,g2,g3,g8,hib,SB,Nat.reduceLT,callee,aOp,ne_eq,Nat.reduceEqDiff,aBin,aUn,if_true,if_false,reduceCtorEq,frame0,place,notTuple,Nat.reduceAdd,Nat.reduceLeDiff,resVal,dite_true,dite_false,Int.reduceEq,Int.reduceLT,Int.reduceLE]
  refine Ret_rounds (S:=Nat×Array Go.Net.Leg) (fun s=>s.1) (fun s fr H=>s.1≤i∧fr 0=.slice p n cap∧fr 1=.int .i64 (a:Int)∧fr 2=.int .i64 (b:Int)∧fr 3=.func (.func cl) #[] cs.toArray∧fr 8=.int .i64 (i:Int)∧fr 9=.int .i64 (s.1:Int)∧
   H=DH encL G B s.2++X∧s.2.size=n∧insInner (ltC c) a i d1=insInner (ltC c) a s.1 s.2) (i,d1) ⟨Nat.le_refl _,(by simp only [g0,FB,Nat.reduceEqDiff]),(by simp only [g1,FB,Nat.reduceEqDiff]),(by simp only [g2,FB,Nat.reduceEqDiff]),(by simp only [g3,FB,Nat.reduceEqDiff]),(by simp only [g8,FB,Nat.reduceEqDiff]),(by simp only [FB,Nat.reduceEqDiff]),by simp,hd1,rfl⟩ ?_
  rintro ⟨j,d2⟩ fr2 H2 ⟨k1,q0,q1,q2,q3,q8,q9,rfl,hd2,hi⟩ hM
  simp only at k1 q9 hd2 hi
  rw [Ret_code l65_1.eq_1]
  have hwi:IntKind.i64.wrap ((i:Int)+1)=((i+1:Nat):Int):=wrap_nat (by omega)
  by_cases haj:a<j
  ·obtain ⟨j,rfl⟩:∃j',j=j'+1:=⟨j-1,by omega⟩
   have hwj:IntKind.i64.wrap (((j+1:Nat):Int)-1)=(j:Int):=wrap_pred (n:=j+1) (by omega) (by omega)
   have ld:=fun (X:Heap) (d:Array Go.Net.Leg) (hd:d.size=n)=>DH_ld (X:=X) (d:=d) (i:=j) hp hB encL_len (by omega)
   have ld1:=fun (X:Heap) (d:Array Go.Net.Leg) (hd:d.size=n)=>DH_ld (X:=X) (d:=d) (i:=j+1) hp hB encL_len (by omega)
   have st:=fun (X:Heap) (d:Array Go.Net.Leg) (hd:d.size=n) (y:Go.Net.Leg)=>DH_st (X:=X) (d:=d) (i:=j) (y:=y) hp hB hl encL_len (by omega)
   have st1:=fun (X:Heap) (d:Array Go.Net.Leg) (hd:d.size=n) (y:Go.Net.Leg)=>DH_st (X:=X) (d:=d) (i:=j+1) (y:=y) hp hB hl encL_len (by omega)
   have ix:=fun c (k:IntKind) (H:Heap)=>DH_idx (e:=8) (i:=j) (n:=n) (c:=c) (k:=k) (H:=H) hp (by omega)
   have ix1:=fun c (k:IntKind) (H:Heap)=>DH_idx (e:=8) (i:=j+1) (n:=n) (c:=c) (k:=k) (H:=H) hp (by omega)
   rw [insInner] at hi
   by_cases hlt:ltC c d2[j+1]! d2[j]! = true
   ·have hlt':c d2[j+1]! d2[j]!<0:=by simpa [ltC] using hlt
    simp only [n65,r65,q0,q1,q2,q3,q8,q9,haj,hwj,ld,ld1,st,st1,ix,ix1,hd2,hc,hlt',Array.size_setIfInBounds,encL_len,SB,Nat.reduceLT,callee,aOp,ne_eq,Nat.reduceEqDiff,aBin,aUn,if_true,if_false,reduceCtorEq,frame0,place,notTuple,Nat.reduceAdd,Nat.reduceLeDiff,resVal,dite_true,dite_false,Int.reduceEq,Int.reduceLT,Int.reduceLE]
    refine hM (j,swp d2 (j+1) j) _ _ ⟨by simp only;omega,(by simp only [q0,FB,Nat.reduceEqDiff]),(by simp only [q1,FB,Nat.reduceEqDiff]),(by simp only [q2,FB,Nat.reduceEqDiff]),(by simp only [q3,FB,Nat.reduceEqDiff]),(by simp only [q8,FB,Nat.reduceEqDiff]),(by simp only [FB,Nat.reduceEqDiff]),by simp [swp],by simp [swp,hd2], ?_⟩ (by simp only;omega)
    rw [hi];simp [haj,hlt]
   ·have hlt':¬c d2[j+1]! d2[j]!<0:=by simpa [ltC] using hlt
    simp only [n65,r65,q0,q1,q2,q3,q8,q9,haj,hwj,ld,ld1,st,st1,ix,ix1,hd2,hc,hlt',hwi,SB,Nat.reduceLT,callee,aOp,ne_eq,Nat.reduceEqDiff,aBin,aUn,if_true,if_false,reduceCtorEq,frame0,place,notTuple,Nat.reduceAdd,Nat.reduceLeDiff,resVal,dite_true,dite_false,Int.reduceEq,Int.reduceLT,Int.reduceLE]
    refine hN (i+1,d2) _ _ ⟨by simp only;omega,by simp only;omega,(by simp only [q0,FB,Nat.reduceEqDiff]),(by simp only [q1,FB,Nat.reduceEqDiff]),(by simp only [q2,FB,Nat.reduceEqDiff]),(by simp only [q3,FB,Nat.reduceEqDiff]),(by simp only [FB,Nat.reduceEqDiff]),by simp,hd2, ?_⟩ (by simp only;omega)
    rw [he,hi];simp [haj,hlt]
  ·have haj':¬(a:Int)<(j:Int):=by omega
   simp only [n65,r65,q0,q1,q2,q3,q8,q9,haj,hwi,SB,Nat.reduceLT,callee,aOp,ne_eq,Nat.reduceEqDiff,aBin,aUn,if_true,if_false,reduceCtorEq,frame0,place,notTuple,Nat.reduceAdd,Nat.reduceLeDiff,resVal,dite_true,dite_false,Int.reduceEq,Int.reduceLT,Int.reduceLE]
   refine hN (i+1,d2) _ _ ⟨by simp only;omega,by simp only;omega,(by simp only [q0,FB,Nat.reduceEqDiff]),(by simp only [q1,FB,Nat.reduceEqDiff]),(by simp only [q2,FB,Nat.reduceEqDiff]),(by simp only [q3,FB,Nat.reduceEqDiff]),(by simp only [FB,Nat.reduceEqDiff]),by simp,hd2, ?_⟩ (by simp only;omega)
   rw [he,hi]
   cases j with
   | zero=>rfl
   | succ j=>rw [insInner];simp [show ¬j+1 > a by omega]
 ·rw [if_neg hib] at he
  simp only [n65,r65,g0,g1,g2,g3,g8,hib,he,SB,Nat.reduceLT,callee,aOp,ne_eq,Nat.reduceEqDiff,aBin,aUn,if_true,if_false,reduceCtorEq,frame0,place,notTuple,Nat.reduceAdd,Nat.reduceLeDiff,resVal,dite_true,dite_false,Int.reduceEq,Int.reduceLT,Int.reduceLE]
theorem rev_ok [OB] {G X:Heap} {B lim cap n:Nat} {p:Option Addr} {c:Go.Net.Leg→Go.Net.Leg→Int} {cl:FuncId} {cs:List Value} {Q:Value→Heap→Prop} (hp:p=some ⟨B,0,none⟩) (hB:B<G.length) (hl:lim≤B) (hn2:n<2 ^ 61) (hc:∀(mp:Bool) (lim:Nat) (x y:Go.Net.Leg) (H:Heap) (Q:Value→Heap→Prop),CallR E mp lim cl (.agg (encL x).toArray::.agg (encL y).toArray::cs) H Q=Q (.int .i64 (c x y)) H) {d:Array Go.Net.Leg} {a b:Nat} (hd:d.size=n) (hb:b≤n) (hab:a<b) :
  CallR E false lim 69 [.slice p n cap,.int .i64 (a:Int),.int .i64 (b:Int),.func (.func cl) #[] cs.toArray] (DH encL G B d++X) Q=Q (.tuple #[]) (DH encL G B (reverseRange d a b)++X):=by
 refine runs (by decide) e69 rfl ?_
 rw [b69,c69]
 have hw0:IntKind.i64.wrap ((b:Int)-1)=((b-1:Nat):Int):=wrap_pred (by omega) (by omega)
 simp only [n69,r69,hw0,SB,Nat.reduceLT,callee,aOp,ne_eq,Nat.reduceEqDiff,aBin,aUn,if_true,if_false,reduceCtorEq,frame0,place,notTuple,Nat.reduceAdd,Nat.reduceLeDiff,resVal,dite_true,dite_false,Int.reduceEq,Int.reduceLT,Int.reduceLE]
 have ld:=fun (i:Nat) (X:Heap) (d:Array Go.Net.Leg) (hd:d.size=n) (hi:i<n)=>DH_ld (X:=X) (d:=d) (i:=i) hp hB encL_len (by omega);have st:=fun (i:Nat) (X:Heap) (d:Array Go.Net.Leg) (hd:d.size=n) (hi:i<n) (y:Go.Net.Leg)=>DH_st (X:=X) (d:=d) (i:=i) (y:=y) hp hB hl encL_len (by omega);have ix:=fun (i:Nat) (hi:i<n) c (k:IntKind) (H:Heap)=>DH_idx (e:=8) (i:=i) (n:=n) (c:=c) (k:=k) (H:=H) hp hi
 refine Ret_rounds (S:=(Nat×Nat)×Array Go.Net.Leg) (fun s=>s.1.2+1-s.1.1) (fun s fr H=>s.1.1≤b∧s.1.2<b∧fr 0=.slice p n cap∧fr 8=.int .i64 (s.1.1:Int)∧fr 9=.int .i64 (s.1.2:Int)∧
  H=DH encL G B s.2++X∧s.2.size=n∧reverseRange d a b=reverseLoop s.1.1 s.1.2 s.2) ((a,b-1),d) ⟨by simp;omega,by simp;omega,(by simp only [FB,Nat.reduceEqDiff]),(by simp only [FB,Nat.reduceEqDiff]),(by simp only [FB,Nat.reduceEqDiff]),rfl,hd,rfl⟩ ?_
 rintro ⟨⟨i,j⟩,d1⟩ fr H ⟨h1,h2,g0,g8,g9,rfl,hd1,he⟩ hN
 simp only at h1 h2 g8 g9 hd1 he
 rw [Ret_code l69_1.eq_1]
 unfold reverseLoop at he
 by_cases hij:i<j
 ·rw [if_pos hij] at he
  have hw1:IntKind.i64.wrap ((i:Int)+1)=((i+1:Nat):Int):=wrap_nat (by omega)
  have hw2:IntKind.i64.wrap ((j:Int)-1)=((j-1:Nat):Int):=wrap_pred (by omega) (by omega)
  have hi:i<n:=by omega
  have hj:j<n:=by omega
  simp only [n69,r69,g0,g8,g9,hij,hw1,hw2,ld,st,ix,List.append_nil,Array.size_setIfInBounds,encL_len,hd1,hi,hj,SB,Nat.reduceLT,callee,aOp,ne_eq,Nat.reduceEqDiff,aBin,aUn,if_true,if_false,reduceCtorEq,frame0,place,notTuple,Nat.reduceAdd,Nat.reduceLeDiff,resVal,dite_true,dite_false,Int.reduceEq,Int.reduceLT,Int.reduceLE]
  refine hN ((i+1,j-1),swp d1 i j) _ _ ⟨by simp only;omega,by simp only;omega,(by simp only [g0,FB,Nat.reduceEqDiff]),(by simp only [FB,Nat.reduceEqDiff]),(by simp only [FB,Nat.reduceEqDiff]),by simp [swp],by simp [swp,hd1],he⟩ (by simp only;omega)
 ·rw [if_neg hij] at he
  simp only [n69,r69,g0,g8,g9,hij,he,SB,Nat.reduceLT,callee,aOp,ne_eq,Nat.reduceEqDiff,aBin,aUn,if_true,if_false,reduceCtorEq,frame0,place,notTuple,Nat.reduceAdd,Nat.reduceLeDiff,resVal,dite_true,dite_false,Int.reduceEq,Int.reduceLT,Int.reduceLE]
theorem sift_ok [OB] {G X:Heap} {B lim cap n:Nat} {p:Option Addr} {c:Go.Net.Leg→Go.Net.Leg→Int} {cl:FuncId} {cs:List Value} {Q:Value→Heap→Prop} (hp:p=some ⟨B,0,none⟩) (hB:B<G.length) (hl:lim≤B) (hn2:n<2 ^ 61) (hc:∀(mp:Bool) (lim:Nat) (x y:Go.Net.Leg) (H:Heap) (Q:Value→Heap→Prop),CallR E mp lim cl (.agg (encL x).toArray::.agg (encL y).toArray::cs) H Q=Q (.int .i64 (c x y)) H) {d:Array Go.Net.Leg} {lo hi first:Nat} (hd:d.size=n) (hb:first+hi≤n) (hlo:lo≤hi) :
  CallR E false lim 75 [.slice p n cap,.int .i64 (lo:Int),.int .i64 (hi:Int),.int .i64 (first:Int),.func (.func cl) #[] cs.toArray] (DH encL G B d++X) Q=Q (.tuple #[]) (DH encL G B (siftDown (ltC c) hi first lo d)++X):=by
 refine runs (by decide) e75 rfl ?_
 rw [b75,c75]
 generalize hT:siftDown (ltC c) hi first lo d=T
 simp only [n75,r75,SB,Nat.reduceLT,callee,aOp,ne_eq,Nat.reduceEqDiff,aBin,aUn,if_true,if_false,reduceCtorEq,frame0,place,notTuple,Nat.reduceAdd,Nat.reduceLeDiff,resVal,dite_true,dite_false,Int.reduceEq,Int.reduceLT,Int.reduceLE]
 have ld:=fun (i:Nat) (X:Heap) (d:Array Go.Net.Leg) (hd:d.size=n) (hi:i<n)=>DH_ld (X:=X) (d:=d) (i:=i) hp hB encL_len (by omega);have st:=fun (i:Nat) (X:Heap) (d:Array Go.Net.Leg) (hd:d.size=n) (hi:i<n) (y:Go.Net.Leg)=>DH_st (X:=X) (d:=d) (i:=i) (y:=y) hp hB hl encL_len (by omega);have ix:=fun (i:Nat) (hi:i<n) c (k:IntKind) (H:Heap)=>DH_idx (e:=8) (i:=i) (n:=n) (c:=c) (k:=k) (H:=H) hp hi
 refine Ret_rounds (S:=Nat×Array Go.Net.Leg) (fun s=>hi-s.1) (fun s fr H=>s.1≤hi∧fr 0=.slice p n cap∧fr 2=.int .i64 (hi:Int)∧fr 3=.int .i64 (first:Int)∧fr 4=.func (.func cl) #[] cs.toArray∧fr 10=.int .i64 (s.1:Int)∧
  H=DH encL G B s.2++X∧s.2.size=n∧T=siftDown (ltC c) hi first s.1 s.2) (lo,d) ⟨hlo,(by simp only [FB,Nat.reduceEqDiff]),(by simp only [FB,Nat.reduceEqDiff]),(by simp only [FB,Nat.reduceEqDiff]),(by simp only [FB,Nat.reduceEqDiff]),(by simp only [FB,Nat.reduceEqDiff]),rfl,hd,hT.symm⟩ ?_
 rintro ⟨r,d1⟩ fr H ⟨h1,g0,g2,g3,g4,g10,rfl,hd1,he⟩ hN
 simp only at h1 g10 hd1 he
 rw [Ret_code l75_1.eq_1]
 unfold siftDown at he
 have hw1:IntKind.i64.wrap (2*(r:Int))=((2*r:Nat):Int):=by rw [wrap_id (by omega) (by omega)];omega
 have hw2:IntKind.i64.wrap (((2*r:Nat):Int)+1)=((2*r+1:Nat):Int):=wrap_nat (by omega)
 have hw3:IntKind.i64.wrap (((2*r+1:Nat):Int)+1)=((2*r+2:Nat):Int):=wrap_nat (by omega)
 have hw4:IntKind.i64.wrap ((first:Int)+((2*r+1:Nat):Int))=((first+(2*r+1):Nat):Int):=by rw [wrap_id (by omega) (by omega)];omega
 have hw5:IntKind.i64.wrap (((first+(2*r+1):Nat):Int)+1)=((first+(2*r+2):Nat):Int):=wrap_nat (by omega)
 have hw6:IntKind.i64.wrap ((first:Int)+((2*r+2:Nat):Int))=((first+(2*r+2):Nat):Int):=by rw [wrap_id (by omega) (by omega)];omega
 have hw7:IntKind.i64.wrap ((first:Int)+(r:Int))=((first+r:Nat):Int):=by rw [wrap_id (by omega) (by omega)];omega
 by_cases c1:2*r+1≥hi
 ·rw [dif_pos c1] at he
  have c1':hi≤2*r+1:=c1
  simp only [n75,r75,g0,g2,g3,g4,g10,hw1,hw2,c1',he,SB,Nat.reduceLT,callee,aOp,ne_eq,Nat.reduceEqDiff,aBin,aUn,if_true,if_false,reduceCtorEq,frame0,place,notTuple,Nat.reduceAdd,Nat.reduceLeDiff,resVal,dite_true,dite_false,Int.reduceEq,Int.reduceLT,Int.reduceLE]
 ·rw [dif_neg c1] at he
  have c1':¬hi≤2*r+1:=c1
  have i1:first+(2*r+1)<n:=by omega
  have i2:first+r<n:=by omega
  by_cases c2:2*r+1+1<hi∧c d1[first+(2*r+1)]! d1[first+(2*r+2)]!<0
  ·obtain ⟨c2,c3⟩:=c2
   have i3:first+(2*r+2)<n:=by omega
   have c2':2*r+2<hi:=by omega
   rw [if_pos (by simp only [Bool.and_eq_true,decide_eq_true_eq,ltC];exact ⟨c2,by rw [show first+(2*r+1)+1=first+(2*r+2) by omega];exact c3⟩)] at he
   by_cases c4:c d1[first+r]! d1[first+(2*r+2)]!<0
   ·rw [if_neg (by simp [ltC,c4]),dif_pos c2'] at he
    simp only [n75,r75,g0,g2,g3,g4,g10,hw1,hw2,hw3,hw4,hw5,hw6,hw7,c1',c2',c3,c4,ld,st,ix,List.append_nil,Array.size_setIfInBounds,encL_len,hd1,i1,i2,i3,hc,SB,Nat.reduceLT,callee,aOp,ne_eq,Nat.reduceEqDiff,aBin,aUn,if_true,if_false,reduceCtorEq,frame0,place,notTuple,Nat.reduceAdd,Nat.reduceLeDiff,resVal,dite_true,dite_false,Int.reduceEq,Int.reduceLT,Int.reduceLE]
    refine hN (2*r+2,swp d1 (first+r) (first+(2*r+2))) _ _ ⟨by simp only;omega,(by simp only [g0,FB,Nat.reduceEqDiff]),(by simp only [g2,FB,Nat.reduceEqDiff]),(by simp only [g3,FB,Nat.reduceEqDiff]),(by simp only [g4,FB,Nat.reduceEqDiff]),(by simp only [FB,Nat.reduceEqDiff]),by simp [swp],by simp [swp,hd1],he⟩ (by simp only;omega)
   ·rw [if_pos (by simp [ltC,c4])] at he
    simp only [n75,r75,g0,g2,g3,g4,g10,hw1,hw2,hw3,hw4,hw5,hw6,hw7,c1',c2',c3,c4,ld,st,ix,List.append_nil,Array.size_setIfInBounds,encL_len,hd1,i1,i2,i3,hc,he,SB,Nat.reduceLT,callee,aOp,ne_eq,Nat.reduceEqDiff,aBin,aUn,if_true,if_false,reduceCtorEq,frame0,place,notTuple,Nat.reduceAdd,Nat.reduceLeDiff,resVal,dite_true,dite_false,Int.reduceEq,Int.reduceLT,Int.reduceLE]
  ·rw [if_neg (by simp only [Bool.and_eq_true,decide_eq_true_eq,ltC];rw [show first+(2*r+1)+1=first+(2*r+2) by omega];exact c2)] at he
   by_cases c4:c d1[first+r]! d1[first+(2*r+1)]!<0
   ·rw [if_neg (by simp [ltC,c4])] at he
    by_cases c5:2*r+2<hi
    ·have c3:¬c d1[first+(2*r+1)]! d1[first+(2*r+2)]!<0:=fun h=>c2 ⟨by omega,h⟩
     have i3:first+(2*r+2)<n:=by omega
     simp only [n75,r75,g0,g2,g3,g4,g10,hw1,hw2,hw3,hw4,hw5,hw6,hw7,c1',c5,c3,c4,ld,st,ix,List.append_nil,Array.size_setIfInBounds,encL_len,hd1,i1,i2,i3,hc,SB,Nat.reduceLT,callee,aOp,ne_eq,Nat.reduceEqDiff,aBin,aUn,if_true,if_false,reduceCtorEq,frame0,place,notTuple,Nat.reduceAdd,Nat.reduceLeDiff,resVal,dite_true,dite_false,Int.reduceEq,Int.reduceLT,Int.reduceLE]
     refine hN (2*r+1,swp d1 (first+r) (first+(2*r+1))) _ _ ⟨by simp only;omega,(by simp only [g0,FB,Nat.reduceEqDiff]),(by simp only [g2,FB,Nat.reduceEqDiff]),(by simp only [g3,FB,Nat.reduceEqDiff]),(by simp only [g4,FB,Nat.reduceEqDiff]),(by simp only [FB,Nat.reduceEqDiff]),by simp [swp],by simp [swp,hd1],he⟩ (by simp only;omega)
    ·simp only [n75,r75,g0,g2,g3,g4,g10,hw1,hw2,hw3,hw4,hw5,hw6,hw7,c1',c5,c4,ld,st,ix,List.append_nil,Array.size_setIfInBounds,encL_len,hd1,i1,i2,hc,SB,Nat.reduceLT,callee,aOp,ne_eq,Nat.reduceEqDiff,aBin,aUn,if_true,if_false,reduceCtorEq,frame0,place,notTuple,Nat.reduceAdd,Nat.reduceLeDiff,resVal,dite_true,dite_false,Int.reduceEq,Int.reduceLT,Int.reduceLE]
     refine hN (2*r+1,swp d1 (first+r) (first+(2*r+1))) _ _ ⟨by simp only;omega,(by simp only [g0,FB,Nat.reduceEqDiff]),(by simp only [g2,FB,Nat.reduceEqDiff]),(by simp only [g3,FB,Nat.reduceEqDiff]),(by simp only [g4,FB,Nat.reduceEqDiff]),(by simp only [FB,Nat.reduceEqDiff]),by simp [swp],by simp [swp,hd1],he⟩ (by simp only;omega)
   ·rw [if_pos (by simp [ltC,c4])] at he
    by_cases c5:2*r+2<hi
    ·have c3:¬c d1[first+(2*r+1)]! d1[first+(2*r+2)]!<0:=fun h=>c2 ⟨by omega,h⟩
     have i3:first+(2*r+2)<n:=by omega
     simp only [n75,r75,g0,g2,g3,g4,g10,hw1,hw2,hw3,hw4,hw5,hw6,hw7,c1',c5,c3,c4,ld,st,ix,List.append_nil,Array.size_setIfInBounds,encL_len,hd1,i1,i2,i3,hc,he,SB,Nat.reduceLT,callee,aOp,ne_eq,Nat.reduceEqDiff,aBin,aUn,if_true,if_false,reduceCtorEq,frame0,place,notTuple,Nat.reduceAdd,Nat.reduceLeDiff,resVal,dite_true,dite_false,Int.reduceEq,Int.reduceLT,Int.reduceLE]
    ·simp only [n75,r75,g0,g2,g3,g4,g10,hw1,hw2,hw3,hw4,hw5,hw6,hw7,c1',c5,c4,ld,st,ix,List.append_nil,Array.size_setIfInBounds,encL_len,hd1,i1,i2,hc,he,SB,Nat.reduceLT,callee,aOp,ne_eq,Nat.reduceEqDiff,aBin,aUn,if_true,if_false,reduceCtorEq,frame0,place,notTuple,Nat.reduceAdd,Nat.reduceLeDiff,resVal,dite_true,dite_false,Int.reduceEq,Int.reduceLT,Int.reduceLE]
theorem swp_sz {α:Type} [Inhabited α] {d:Array α} {i j:Nat}:(swp d i j).size=d.size:=by simp [swp]
theorem siftDown_sz {α:Type} [Inhabited α] {lt:α→α→Bool} {hi first:Nat}:∀(m r:Nat) (d:Array α),hi-r≤m→(siftDown lt hi first r d).size=d.size
 | 0,r,d,h=>by
   rw [siftDown,dif_pos (by omega)]
 | m+1,r,d,h=>by
   rw [siftDown]
   split
   ·rfl
   ·split
    ·split
     ·rfl
     ·split
      ·rw [siftDown_sz m _ _ (by omega),swp_sz]
      ·rfl
    ·split
     ·rfl
     ·rw [siftDown_sz m _ _ (by omega),swp_sz]
theorem heap_ok [OB] {G X:Heap} {B lim cap n:Nat} {p:Option Addr} {c:Go.Net.Leg→Go.Net.Leg→Int} {cl:FuncId} {cs:List Value} {Q:Value→Heap→Prop} (hp:p=some ⟨B,0,none⟩) (hB:B<G.length) (hl:lim≤B) (hn2:n<2 ^ 61) (hc:∀(mp:Bool) (lim:Nat) (x y:Go.Net.Leg) (H:Heap) (Q:Value→Heap→Prop),CallR E mp lim cl (.agg (encL x).toArray::.agg (encL y).toArray::cs) H Q=Q (.int .i64 (c x y)) H) {d:Array Go.Net.Leg} {a b:Nat} (hd:d.size=n) (hb:b≤n) (hab:a≤b) :
  CallR E false lim 66 [.slice p n cap,.int .i64 (a:Int),.int .i64 (b:Int),.func (.func cl) #[] cs.toArray] (DH encL G B d++X) Q=Q (.tuple #[]) (DH encL G B (heapSort (ltC c) d a b)++X):=by
 refine runs (by decide) e66 rfl ?_
 rw [b66,c66]
 obtain ⟨h,rfl⟩:∃h,b=a+h:=⟨b-a,by omega⟩
 have hw0:IntKind.i64.wrap (((a+h:Nat):Int)-(a:Int))=(h:Int):=by rw [wrap_id (by omega) (by omega)];omega
 have hw1:IntKind.i64.wrap ((h:Int)-1)=(h:Int)-1:=wrap_id (by omega) (by omega)
 have hw2:IntKind.i64.wrap (((h:Int)-1).tdiv 2)=(((h-1) / 2+1:Nat):Int)-1:=by
  rcases Nat.eq_zero_or_pos h with rfl | h0
  ·decide
  ·rw [Int.tdiv_eq_ediv_of_nonneg (by omega),wrap_id (by omega) (by omega)];omega
 generalize hT:heapSort (ltC c) d a (a+h)=T
 rw [heapSort,show a+h-a=h by omega] at hT
 have ld:=fun (i:Nat) (X:Heap) (d:Array Go.Net.Leg) (hd:d.size=n) (hi:i<n)=>DH_ld (X:=X) (d:=d) (i:=i) hp hB encL_len (by omega);have st:=fun (i:Nat) (X:Heap) (d:Array Go.Net.Leg) (hd:d.size=n) (hi:i<n) (y:Go.Net.Leg)=>DH_st (X:=X) (d:=d) (i:=i) (y:=y) hp hB hl encL_len (by omega);have ix:=fun (i:Nat) (hi:i<n) c (k:IntKind) (H:Heap)=>DH_idx (e:=8) (i:=i) (n:=n) (c:=c) (k:=k) (H:=H) hp hi
 have hsift:=fun (X:Heap) (d:Array Go.Net.Leg) (lo hi:Nat) (hd:d.size=n) (hh:hi≤h) (hlo:lo≤hi) Q=>sift_ok (X:=X) (d:=d) (lo:=lo) (hi:=hi) (first:=a) (cap:=cap) (Q:=Q) hp hB hl hn2 hc hd (by omega) hlo
 simp only [n66,r66,hw0,hw1,hw2,SB,Nat.reduceLT,callee,aOp,ne_eq,Nat.reduceEqDiff,aBin,aUn,if_true,if_false,reduceCtorEq,frame0,place,notTuple,Nat.reduceAdd,Nat.reduceLeDiff,resVal,dite_true,dite_false,Int.reduceEq,Int.reduceLT,Int.reduceLE]
 refine Ret_rounds (S:=Nat×Array Go.Net.Leg) (fun s=>s.1) (fun s fr H=>s.1≤h+1∧(h=0→s.1≤1)∧(0<h→s.1≤h)∧fr 0=.slice p n cap∧fr 3=.func (.func cl) #[] cs.toArray∧fr 8=.int .i64 (a:Int)∧fr 9=.int .i64 0∧fr 10=.int .i64 (h:Int)∧fr 11=.int .i64 ((s.1:Int)-1)∧
  H=DH encL G B s.2++X∧s.2.size=n∧T=heapPop (ltC c) a h (heapBuild (ltC c) h a s.1 s.2)) ((h-1) / 2+1,d) ⟨by simp only;omega,by simp only;omega,by simp only;omega,(by simp only [FB,Nat.reduceEqDiff]),(by simp only [FB,Nat.reduceEqDiff]),(by simp only [FB,Nat.reduceEqDiff]),(by simp only [FB,Nat.reduceEqDiff]),(by simp only [FB,Nat.reduceEqDiff]),(by simp only [FB,Nat.reduceEqDiff]),rfl,hd,hT.symm⟩ ?_
 rintro ⟨k,d1⟩ fr H ⟨h1,h2,h3,g0,g3,g8,g9,g10,g11,rfl,hd1,he⟩ hN
 simp only at h1 h2 h3 g11 hd1 he
 rw [Ret_code l66_2.eq_1]
 cases k with
 | succ k=>
   have hk:((k+1:Nat):Int)-1=(k:Int):=by omega
   rw [hk] at g11
   have hw3:IntKind.i64.wrap ((k:Int)-1)=(k:Int)-1:=wrap_id (by omega) (by omega)
   have hk1:k≤h:=by omega
   have hk0:(0:Int)≤(k:Int):=by omega
   simp only [n66,r66,g0,g3,g8,g9,g10,g11,hk0,hw3,hsift,hd1,hk1,SB,Nat.reduceLT,callee,aOp,ne_eq,Nat.reduceEqDiff,aBin,aUn,if_true,if_false,reduceCtorEq,frame0,place,notTuple,Nat.reduceAdd,Nat.reduceLeDiff,resVal,dite_true,dite_false,Int.reduceEq,Int.reduceLT,Int.reduceLE]
   refine hN (k,siftDown (ltC c) h a k d1) _ _ ⟨by simp only;omega,by simp only;omega,by simp only;omega,(by simp only [g0,FB,Nat.reduceEqDiff]),(by simp only [g3,FB,Nat.reduceEqDiff]),(by simp only [g8,FB,Nat.reduceEqDiff]),(by simp only [g9,FB,Nat.reduceEqDiff]),(by simp only [g10,FB,Nat.reduceEqDiff]),(by simp only [FB,Nat.reduceEqDiff]),by simp,by simp only;rw [siftDown_sz _ _ _ (Nat.le_refl _),hd1],he⟩ (by simp only;omega)
 | zero=>
   clear hN
   rw [heapBuild] at he
   simp only [n66,r66,g0,g3,g8,g9,g10,g11,hw1,Int.cast_ofNat_Int,Int.ofNat_eq_natCast,Int.reduceSub,Int.zero_sub,Int.reduceNeg,SB,Nat.reduceLT,callee,aOp,ne_eq,Nat.reduceEqDiff,aBin,aUn,if_true,if_false,reduceCtorEq,frame0,place,notTuple,Nat.reduceAdd,Nat.reduceLeDiff,resVal,dite_true,dite_false,Int.reduceEq,Int.reduceLT,Int.reduceLE]
   refine Ret_rounds (S:=Nat×Array Go.Net.Leg) (fun s=>s.1) (fun s fr H=>s.1≤h∧fr 0=.slice p n cap∧fr 3=.func (.func cl) #[] cs.toArray∧fr 8=.int .i64 (a:Int)∧fr 9=.int .i64 0∧fr 12=.int .i64 ((s.1:Int)-1)∧
    H=DH encL G B s.2++X∧s.2.size=n∧T=heapPop (ltC c) a s.1 s.2) (h,d1) ⟨Nat.le_refl _,(by simp only [g0,FB,Nat.reduceEqDiff]),(by simp only [g3,FB,Nat.reduceEqDiff]),(by simp only [g8,FB,Nat.reduceEqDiff]),(by simp only [g9,FB,Nat.reduceEqDiff]),(by simp only [FB,Nat.reduceEqDiff]),by simp,hd1,he⟩ ?_
   rintro ⟨k,d2⟩ fr2 H2 ⟨k1,q0,q3,q8,q9,q12,rfl,hd2,hf⟩ hM
   simp only at k1 q12 hd2 hf
   rw [Ret_code l66_1.eq_1]
   cases k with
   | succ k=>
     have hk:((k+1:Nat):Int)-1=(k:Int):=by omega
     rw [hk] at q12
     have hw3:IntKind.i64.wrap ((k:Int)-1)=(k:Int)-1:=wrap_id (by omega) (by omega)
     have hw4:IntKind.i64.wrap ((a:Int)+(k:Int))=((a+k:Nat):Int):=by rw [wrap_id (by omega) (by omega)];omega
     have i1:a<n:=by omega
     have i2:a+k<n:=by omega
     have hk1:k≤h:=by omega
     have hk0:(0:Int)≤(k:Int):=by omega
     have hsift0:=fun (X:Heap) (d:Array Go.Net.Leg) (hi:Nat) (hd:d.size=n) (hh:hi≤h) Q=>hsift X d 0 hi hd hh (Nat.zero_le _) Q
     simp only [show ((0:Nat):Int)=0 from rfl] at hsift0
     simp only [n66,r66,q0,q3,q8,q9,q12,hk0,hw3,hw4,hsift0,hd2,hk1,ld,st,ix,List.append_nil,Array.size_setIfInBounds,encL_len,i1,i2,SB,Nat.reduceLT,callee,aOp,ne_eq,Nat.reduceEqDiff,aBin,aUn,if_true,if_false,reduceCtorEq,frame0,place,notTuple,Nat.reduceAdd,Nat.reduceLeDiff,resVal,dite_true,dite_false,Int.reduceEq,Int.reduceLT,Int.reduceLE]
     refine hM (k,siftDown (ltC c) k a 0 (swp d2 a (a+k))) _ _ ⟨by simp only;omega,(by simp only [q0,FB,Nat.reduceEqDiff]),(by simp only [q3,FB,Nat.reduceEqDiff]),(by simp only [q8,FB,Nat.reduceEqDiff]),(by simp only [q9,FB,Nat.reduceEqDiff]),(by simp only [FB,Nat.reduceEqDiff]),by simp [swp],by simp only;rw [siftDown_sz _ _ _ (Nat.le_refl _),swp_sz,hd2],hf⟩ (by simp only;omega)
   | zero=>
     rw [heapPop] at hf
     simp only [n66,r66,q0,q3,q8,q9,q12,hf,Int.reduceSub,Int.zero_sub,Int.reduceNeg,SB,Nat.reduceLT,callee,aOp,ne_eq,Nat.reduceEqDiff,aBin,aUn,if_true,if_false,reduceCtorEq,frame0,place,notTuple,Nat.reduceAdd,Nat.reduceLeDiff,resVal,dite_true,dite_false,Int.reduceEq,Int.reduceLT,Int.reduceLE]
theorem scanUp_step {α:Type} [Inhabited α] {p:α→Bool} {d:Array α} {j i:Nat} (h:i≤j) (hp:p d[i]! = true):scanUp p d j i=scanUp p d j (i+1):=by
 rw [scanUp];simp [h,hp]
theorem scanUp_stop {α:Type} [Inhabited α] {p:α→Bool} {d:Array α} {j i:Nat} (h:i≤j→p d[i]! = false):scanUp p d j i=i:=by
 rw [scanUp]
 by_cases q:i≤j
 ·simp [h q]
 ·simp [q]
theorem scanDown_step {α:Type} [Inhabited α] {p:α→Bool} {d:Array α} {j i:Nat} (h:i≤j) (h0:0<j) (hp:p d[j]! = true):scanDown p d i j=scanDown p d i (j-1):=by
 obtain ⟨j,rfl⟩:∃j',j=j'+1:=⟨j-1,by omega⟩
 rw [scanDown];simp [h,hp]
theorem scanDown_stop {α:Type} [Inhabited α] {p:α→Bool} {d:Array α} {j i:Nat} (h:i≤j→p d[j]! = false):scanDown p d i j=j:=by
 cases j with
 | zero=>rfl
 | succ j=>
   rw [scanDown]
   by_cases q:i≤j+1
   ·simp [h q]
   ·simp [q]
theorem partEq_stop {α:Type} [Inhabited α] {lt:α→α→Bool} {a i j i2 j2:Nat} {d:Array α} (h1:scanUp (fun x=>!lt d[a]! x) d j i=i2) (h2:scanDown (fun x=>lt d[a]! x) d i2 j=j2) (h:i2 > j2):partEqLoop lt a i j d=(i2,d):=by
 rw [partEqLoop];simp only [h1,h2];rw [if_pos h]
theorem partEq_next {α:Type} [Inhabited α] {lt:α→α→Bool} {a i j i2 j2:Nat} {d:Array α} (h1:scanUp (fun x=>!lt d[a]! x) d j i=i2) (h2:scanDown (fun x=>lt d[a]! x) d i2 j=j2) (h:¬i2 > j2) (g1:i≤i2) (g2:j2≤j) (g3:0<i2):partEqLoop lt a i j d=partEqLoop lt a (i2+1) (j2-1) (swp d i2 j2):=by
 rw [partEqLoop];simp only [h1,h2];rw [if_neg h,dif_pos (by omega)]
theorem peq_ok [OB] {G X:Heap} {B lim cap n:Nat} {p:Option Addr} {c:Go.Net.Leg→Go.Net.Leg→Int} {cl:FuncId} {cs:List Value} {Q:Value→Heap→Prop} (hp:p=some ⟨B,0,none⟩) (hB:B<G.length) (hl:lim≤B) (hn2:n<2 ^ 61) (hc:∀(mp:Bool) (lim:Nat) (x y:Go.Net.Leg) (H:Heap) (Q:Value→Heap→Prop),CallR E mp lim cl (.agg (encL x).toArray::.agg (encL y).toArray::cs) H Q=Q (.int .i64 (c x y)) H) {d:Array Go.Net.Leg} {a b v:Nat} (hd:d.size=n) (hb:b≤n) (hab:a≤v) (hvb:v<b) :
  CallR E false lim 71 [.slice p n cap,.int .i64 (a:Int),.int .i64 (b:Int),.int .i64 (v:Int),.func (.func cl) #[] cs.toArray] (DH encL G B d++X) Q=Q (.int .i64 ((partitionEqual (ltC c) d a b v).1:Nat)) (DH encL G B (partitionEqual (ltC c) d a b v).2++X):=by
 refine runs (by decide) e71 rfl ?_
 rw [b71,c71]
 have hw0:IntKind.i64.wrap ((b:Int)-1)=((b-1:Nat):Int):=wrap_pred (by omega) (by omega)
 have hw1:IntKind.i64.wrap ((a:Int)+1)=((a+1:Nat):Int):=wrap_nat (by omega)
 generalize hT:partitionEqual (ltC c) d a b v=T
 rw [partitionEqual] at hT
 have ld:=fun (i:Nat) (X:Heap) (d:Array Go.Net.Leg) (hd:d.size=n) (hi:i<n)=>DH_ld (X:=X) (d:=d) (i:=i) hp hB encL_len (by omega);have st:=fun (i:Nat) (X:Heap) (d:Array Go.Net.Leg) (hd:d.size=n) (hi:i<n) (y:Go.Net.Leg)=>DH_st (X:=X) (d:=d) (i:=i) (y:=y) hp hB hl encL_len (by omega);have ix:=fun (i:Nat) (hi:i<n) c (k:IntKind) (H:Heap)=>DH_idx (e:=8) (i:=i) (n:=n) (c:=c) (k:=k) (H:=H) hp hi
 have i1:a<n:=by omega
 have i2:v<n:=by omega
 simp only [n71,r71,hw0,hw1,ld,st,ix,List.append_nil,Array.size_setIfInBounds,encL_len,hd,i1,i2,SB,Nat.reduceLT,callee,aOp,ne_eq,Nat.reduceEqDiff,aBin,aUn,if_true,if_false,reduceCtorEq,frame0,place,notTuple,Nat.reduceAdd,Nat.reduceLeDiff,resVal,dite_true,dite_false,Int.reduceEq,Int.reduceLT,Int.reduceLE]
 refine Ret_rounds (S:=(Nat×Nat)×Array Go.Net.Leg) (fun s=>s.1.2+1-s.1.1) (fun s fr H=>a<s.1.1∧s.1.1≤b∧s.1.2<b∧fr 0=.slice p n cap∧fr 1=.int .i64 (a:Int)∧fr 4=.func (.func cl) #[] cs.toArray∧fr 11=.int .i64 (s.1.1:Int)∧fr 12=.int .i64 (s.1.2:Int)∧
  H=DH encL G B s.2++X∧s.2.size=n∧T=partEqLoop (ltC c) a s.1.1 s.1.2 s.2) ((a+1,b-1),swp d a v) ⟨by simp only;omega,by simp only;omega,by simp only;omega,(by simp only [FB,Nat.reduceEqDiff]),(by simp only [FB,Nat.reduceEqDiff]),(by simp only [FB,Nat.reduceEqDiff]),(by simp only [FB,Nat.reduceEqDiff]),(by simp only [FB,Nat.reduceEqDiff]),by simp [swp],by simp [swp,hd],hT.symm⟩ ?_
 rintro ⟨⟨i,j⟩,d1⟩ fr H ⟨h1,h2,h3,g0,g1,g4,g11,g12,rfl,hd1,he⟩ hN
 simp only at h1 h2 h3 g11 g12 hd1 he
 rw [Ret_code l71_3.eq_1]
 simp only [n71,r71,SB,Nat.reduceLT,callee,aOp,ne_eq,Nat.reduceEqDiff,aBin,aUn,if_true,if_false,reduceCtorEq,frame0,place,notTuple,Nat.reduceAdd,Nat.reduceLeDiff,resVal,dite_true,dite_false,Int.reduceEq,Int.reduceLT,Int.reduceLE]
 refine Ret_rounds (S:=Nat) (fun s=>b+1-s) (fun s fr H=>i≤s∧s≤b∧fr 0=.slice p n cap∧fr 1=.int .i64 (a:Int)∧fr 4=.func (.func cl) #[] cs.toArray∧fr 11=.int .i64 (s:Int)∧fr 12=.int .i64 (j:Int)∧
  H=DH encL G B d1++X∧scanUp (fun x=>!ltC c d1[a]! x) d1 j i=scanUp (fun x=>!ltC c d1[a]! x) d1 j s) i ⟨Nat.le_refl _,h2,g0,g1,g4,g11,g12,rfl,rfl⟩ ?_
 rintro i' fr1 H1 ⟨k1,k2,q0,q1,q4,q11,q12,rfl,hs⟩ hM
 rw [Ret_code l71_2.eq_1]
 by_cases c1:i'≤j∧¬c d1[a]! d1[i']!<0
 ·obtain ⟨c1,c2⟩:=c1
  have hw2:IntKind.i64.wrap ((i':Int)+1)=((i'+1:Nat):Int):=wrap_nat (by omega)
  have i3:i'<n:=by omega
  simp only [n71,r71,q0,q1,q4,q11,q12,c1,c2,hw2,ld,st,ix,List.append_nil,Array.size_setIfInBounds,encL_len,hd1,i1,i3,hc,SB,Nat.reduceLT,callee,aOp,ne_eq,Nat.reduceEqDiff,aBin,aUn,if_true,if_false,reduceCtorEq,frame0,place,notTuple,Nat.reduceAdd,Nat.reduceLeDiff,resVal,dite_true,dite_false,Int.reduceEq,Int.reduceLT,Int.reduceLE]
  exact hM (i'+1) _ _ ⟨by omega,by omega,(by simp only [q0,FB,Nat.reduceEqDiff]),(by simp only [q1,FB,Nat.reduceEqDiff]),(by simp only [q4,FB,Nat.reduceEqDiff]),(by simp only [FB,Nat.reduceEqDiff]),(by simp only [q12,FB,Nat.reduceEqDiff]),rfl,by rw [hs,scanUp_step c1 (by simp [ltC,c2])]⟩ (by omega)
 have hs2:scanUp (fun x=>!ltC c d1[a]! x) d1 j i=i':=by
  rw [hs,scanUp_stop]
  intro q
  by_cases q2:c d1[a]! d1[i']!<0
  ·simp [ltC,q2]
  ·exact absurd ⟨q,q2⟩ c1
 clear hM
 have hx:(i'≤j∧c d1[a]! d1[i']!<0)∨¬i'≤j:=by
  by_cases q:i'≤j
  ·exact .inl ⟨q,Classical.byContradiction fun q2=>c1 ⟨q,q2⟩⟩
  ·exact .inr q
 have i0:i'≤j→i'<n:=fun q=>by omega
 rcases hx with ⟨c2,c3⟩ | c2
 case' inl=>simp only [n71,r71,q0,q1,q4,q11,q12,c2,c3,ld,st,ix,List.append_nil,Array.size_setIfInBounds,encL_len,hd1,i1,i0 c2,hc,SB,Nat.reduceLT,callee,aOp,ne_eq,Nat.reduceEqDiff,aBin,aUn,if_true,if_false,reduceCtorEq,frame0,place,notTuple,Nat.reduceAdd,Nat.reduceLeDiff,resVal,dite_true,dite_false,Int.reduceEq,Int.reduceLT,Int.reduceLE]
 case' inr=>simp only [n71,r71,q0,q1,q4,q11,q12,c2,ld,st,ix,List.append_nil,Array.size_setIfInBounds,encL_len,SB,Nat.reduceLT,callee,aOp,ne_eq,Nat.reduceEqDiff,aBin,aUn,if_true,if_false,reduceCtorEq,frame0,place,notTuple,Nat.reduceAdd,Nat.reduceLeDiff,resVal,dite_true,dite_false,Int.reduceEq,Int.reduceLT,Int.reduceLE]
 all_goals
  refine Ret_rounds (S:=Nat) (fun s=>s) (fun s fr H=>s≤j∧fr 0=.slice p n cap∧fr 1=.int .i64 (a:Int)∧fr 4=.func (.func cl) #[] cs.toArray∧fr 11=.int .i64 (i':Int)∧fr 12=.int .i64 (s:Int)∧
   H=DH encL G B d1++X∧scanDown (fun x=>ltC c d1[a]! x) d1 i' j=scanDown (fun x=>ltC c d1[a]! x) d1 i' s) j ⟨Nat.le_refl _,(by simp only [q0,FB,Nat.reduceEqDiff]),(by simp only [q1,FB,Nat.reduceEqDiff]),(by simp only [q4,FB,Nat.reduceEqDiff]),(by simp only [q11,FB,Nat.reduceEqDiff]),(by simp only [q12,FB,Nat.reduceEqDiff]),rfl,rfl⟩ ?_
  rintro j' fr2 H2 ⟨m1,p0,p1,p4,p11,p12,rfl,hs'⟩ hM
  rw [Ret_code l71_1.eq_1]
  have i4:j'<n:=by omega
  by_cases c4:i'≤j'∧c d1[a]! d1[j']!<0
  ·obtain ⟨c4,c5⟩:=c4
   have hw3:IntKind.i64.wrap ((j':Int)-1)=((j'-1:Nat):Int):=wrap_pred (by omega) (by omega)
   simp only [n71,r71,p0,p1,p4,p11,p12,c4,c5,hw3,ld,st,ix,List.append_nil,Array.size_setIfInBounds,encL_len,hd1,i1,i4,hc,SB,Nat.reduceLT,callee,aOp,ne_eq,Nat.reduceEqDiff,aBin,aUn,if_true,if_false,reduceCtorEq,frame0,place,notTuple,Nat.reduceAdd,Nat.reduceLeDiff,resVal,dite_true,dite_false,Int.reduceEq,Int.reduceLT,Int.reduceLE]
   exact hM (j'-1) _ _ ⟨by omega,(by simp only [p0,FB,Nat.reduceEqDiff]),(by simp only [p1,FB,Nat.reduceEqDiff]),(by simp only [p4,FB,Nat.reduceEqDiff]),(by simp only [p11,FB,Nat.reduceEqDiff]),(by simp only [FB,Nat.reduceEqDiff]),rfl,by rw [hs',scanDown_step c4 (by omega) (by simp [ltC,c5])]⟩ (by omega)
  have hs3:scanDown (fun x=>ltC c d1[a]! x) d1 i' j=j':=by
   rw [hs',scanDown_stop]
   intro q
   have q2:¬c d1[a]! d1[j']!<0:=fun q2=>c4 ⟨q,q2⟩
   simp [ltC,q2]
  clear hM
  by_cases c6:j'<i'
  ·have c7:¬i'≤j':=by omega
   rw [partEq_stop hs2 hs3 c6] at he
   simp only [n71,r71,p0,p1,p4,p11,p12,c7,c6,ld,st,ix,List.append_nil,Array.size_setIfInBounds,encL_len,he,SB,Nat.reduceLT,callee,aOp,ne_eq,Nat.reduceEqDiff,aBin,aUn,if_true,if_false,reduceCtorEq,frame0,place,notTuple,Nat.reduceAdd,Nat.reduceLeDiff,resVal,dite_true,dite_false,Int.reduceEq,Int.reduceLT,Int.reduceLE]
  ·have c7:i'≤j':=by omega
   have c8:¬c d1[a]! d1[j']!<0:=fun q=>c4 ⟨c7,q⟩
   rw [partEq_next hs2 hs3 c6 k1 m1 (by omega)] at he
   have i5:i'<n:=by omega
   have hw3:IntKind.i64.wrap ((j':Int)-1)=((j'-1:Nat):Int):=wrap_pred (by omega) (by omega)
   have hw4:IntKind.i64.wrap ((i':Int)+1)=((i'+1:Nat):Int):=wrap_nat (by omega)
   simp only [n71,r71,p0,p1,p4,p11,p12,c7,c6,c8,hw3,hw4,ld,st,ix,List.append_nil,Array.size_setIfInBounds,encL_len,hd1,i1,i4,i5,hc,SB,Nat.reduceLT,callee,aOp,ne_eq,Nat.reduceEqDiff,aBin,aUn,if_true,if_false,reduceCtorEq,frame0,place,notTuple,Nat.reduceAdd,Nat.reduceLeDiff,resVal,dite_true,dite_false,Int.reduceEq,Int.reduceLT,Int.reduceLE]
   exact hN ((i'+1,j'-1),swp d1 i' j') _ _ ⟨by simp only;omega,by simp only;omega,by simp only;omega,(by simp only [p0,FB,Nat.reduceEqDiff]),(by simp only [p1,FB,Nat.reduceEqDiff]),(by simp only [p4,FB,Nat.reduceEqDiff]),(by simp only [FB,Nat.reduceEqDiff]),(by simp only [FB,Nat.reduceEqDiff]),by simp [swp],by simp [swp,hd1],he⟩ (by simp only;omega)
theorem part_stop {α:Type} [Inhabited α] {lt:α→α→Bool} {a i j i2 j2:Nat} {d:Array α} (h1:scanUp (fun x=>lt x d[a]!) d j i=i2) (h2:scanDown (fun x=>!lt x d[a]!) d i2 j=j2) (h:i2 > j2):partLoop lt a i j d=(j2,d):=by
 rw [partLoop];simp only [h1,h2];rw [if_pos h]
theorem part_next {α:Type} [Inhabited α] {lt:α→α→Bool} {a i j i2 j2:Nat} {d:Array α} (h1:scanUp (fun x=>lt x d[a]!) d j i=i2) (h2:scanDown (fun x=>!lt x d[a]!) d i2 j=j2) (h:¬i2 > j2) (g1:i≤i2) (g2:j2≤j) (g3:0<i2):partLoop lt a i j d=partLoop lt a (i2+1) (j2-1) (swp d i2 j2):=by
 rw [partLoop];simp only [h1,h2];rw [if_neg h,dif_pos (by omega)]
theorem part_sort [OB] {G X:Heap} {B lim cap n:Nat} {p:Option Addr} {c:Go.Net.Leg→Go.Net.Leg→Int} {cl:FuncId} {cs:List Value} {Q:Value→Heap→Prop} (hp:p=some ⟨B,0,none⟩) (hB:B<G.length) (hl:lim≤B) (hn2:n<2 ^ 61) (hc:∀(mp:Bool) (lim:Nat) (x y:Go.Net.Leg) (H:Heap) (Q:Value→Heap→Prop),CallR E mp lim cl (.agg (encL x).toArray::.agg (encL y).toArray::cs) H Q=Q (.int .i64 (c x y)) H) {d:Array Go.Net.Leg} {a b v:Nat} (hd:d.size=n) (hb:b≤n) (hab:a≤v) (hvb:v<b) :
  CallR E false lim 72 [.slice p n cap,.int .i64 (a:Int),.int .i64 (b:Int),.int .i64 (v:Int),.func (.func cl) #[] cs.toArray] (DH encL G B d++X) Q=Q (.tuple #[.int .i64 ((Sort.partition (ltC c) d a b v).1:Nat),.bool (Sort.partition (ltC c) d a b v).2.1]) (DH encL G B (Sort.partition (ltC c) d a b v).2.2++X):=by
 refine runs (by decide) e72 rfl ?_
 rw [b72,c72]
 have hw0:IntKind.i64.wrap ((b:Int)-1)=((b-1:Nat):Int):=wrap_pred (by omega) (by omega)
 have hw1:IntKind.i64.wrap ((a:Int)+1)=((a+1:Nat):Int):=wrap_nat (by omega)
 generalize hT:Sort.partition (ltC c) d a b v=T
 rw [Sort.partition] at hT
 have ld:=fun (i:Nat) (X:Heap) (d:Array Go.Net.Leg) (hd:d.size=n) (hi:i<n)=>DH_ld (X:=X) (d:=d) (i:=i) hp hB encL_len (by omega);have st:=fun (i:Nat) (X:Heap) (d:Array Go.Net.Leg) (hd:d.size=n) (hi:i<n) (y:Go.Net.Leg)=>DH_st (X:=X) (d:=d) (i:=i) (y:=y) hp hB hl encL_len (by omega);have ix:=fun (i:Nat) (hi:i<n) c (k:IntKind) (H:Heap)=>DH_idx (e:=8) (i:=i) (n:=n) (c:=c) (k:=k) (H:=H) hp hi
 have i1:a<n:=by omega
 have i2:v<n:=by omega
 simp only [n72,r72,hw0,hw1,ld,st,ix,List.append_nil,Array.size_setIfInBounds,encL_len,hd,i1,i2,SB,Nat.reduceLT,callee,aOp,ne_eq,Nat.reduceEqDiff,aBin,aUn,if_true,if_false,reduceCtorEq,frame0,place,notTuple,Nat.reduceAdd,Nat.reduceLeDiff,resVal,dite_true,dite_false,Int.reduceEq,Int.reduceLT,Int.reduceLE]
 have hd0:(swp d a v).size=n:=by simp [swp,hd]
 have hswp:(d.setIfInBounds a d[v]!).setIfInBounds v d[a]! = swp d a v:=rfl
 rw [hswp]
 generalize swp d a v=d1 at hT hd0
 have k0:a+1≤b:=by omega
 refine Ret_rounds (S:=Nat) (fun s=>b+1-s) (fun s fr H=>(a+1)≤s∧s≤(b-1)+1∧fr 0=.slice p n cap∧fr 1=.int .i64 (a:Int)∧fr 4=.func (.func cl) #[] cs.toArray∧fr 12=.int .i64 (s:Int)∧fr 13=.int .i64 ((b-1:Nat):Int)∧
  H=DH encL G B d1++X∧scanUp (fun x=>ltC c x d1[a]!) d1 (b-1) (a+1)=scanUp (fun x=>ltC c x d1[a]!) d1 (b-1) s) (a+1) ⟨Nat.le_refl _,by omega,(by simp only [FB,Nat.reduceEqDiff]),(by simp only [FB,Nat.reduceEqDiff]),(by simp only [FB,Nat.reduceEqDiff]),(by simp only [FB,Nat.reduceEqDiff]),(by simp only [FB,Nat.reduceEqDiff]),rfl,rfl⟩ ?_
 rintro i' fr1 H1 ⟨x1,k2,q0,q1,q4,q12,q13,rfl,hs⟩ hM
 rw [Ret_code l72_5.eq_1]
 by_cases c1:i'≤(b-1)∧c d1[i']! d1[a]!<0
 ·obtain ⟨cc1,cc2⟩:=c1
  have hw2:IntKind.i64.wrap ((i':Int)+1)=((i'+1:Nat):Int):=wrap_nat (by omega)
  have i3:i'<n:=by omega
  simp only [n72,r72,q0,q1,q4,q12,q13,cc1,cc2,hw2,ld,st,ix,List.append_nil,Array.size_setIfInBounds,encL_len,hd0,i1,i3,hc,SB,Nat.reduceLT,callee,aOp,ne_eq,Nat.reduceEqDiff,aBin,aUn,if_true,if_false,reduceCtorEq,frame0,place,notTuple,Nat.reduceAdd,Nat.reduceLeDiff,resVal,dite_true,dite_false,Int.reduceEq,Int.reduceLT,Int.reduceLE]
  exact hM (i'+1) _ _ ⟨by omega,by omega,(by simp only [q0,FB,Nat.reduceEqDiff]),(by simp only [q1,FB,Nat.reduceEqDiff]),(by simp only [q4,FB,Nat.reduceEqDiff]),(by simp only [FB,Nat.reduceEqDiff]),(by simp only [q13,FB,Nat.reduceEqDiff]),rfl,by rw [hs,scanUp_step cc1 (by simp [ltC,cc2])]⟩ (by omega)
 have hs2:scanUp (fun x=>ltC c x d1[a]!) d1 (b-1) (a+1)=i':=by
  rw [hs,scanUp_stop]
  intro q
  have q2:¬c d1[i']! d1[a]!<0:=fun q2=>c1 ⟨q,q2⟩
  simp [ltC,q2]
 clear hM
 have hx:(i'≤(b-1)∧¬c d1[i']! d1[a]!<0)∨¬i'≤(b-1):=by
  by_cases q:i'≤(b-1)
  ·exact .inl ⟨q,fun q2=>c1 ⟨q,q2⟩⟩
  ·exact .inr q
 have i0:i'≤(b-1)→i'<n:=fun q=>by omega
 have hxx:=hx
 rcases hx with ⟨cc2,cc3⟩ | cc2
 case' inl=>simp only [n72,r72,q0,q1,q4,q12,q13,cc2,cc3,ld,st,ix,List.append_nil,Array.size_setIfInBounds,encL_len,hd0,i1,i0 cc2,hc,SB,Nat.reduceLT,callee,aOp,ne_eq,Nat.reduceEqDiff,aBin,aUn,if_true,if_false,reduceCtorEq,frame0,place,notTuple,Nat.reduceAdd,Nat.reduceLeDiff,resVal,dite_true,dite_false,Int.reduceEq,Int.reduceLT,Int.reduceLE]
 case' inr=>simp only [n72,r72,q0,q1,q4,q12,q13,cc2,ld,st,ix,List.append_nil,Array.size_setIfInBounds,encL_len,SB,Nat.reduceLT,callee,aOp,ne_eq,Nat.reduceEqDiff,aBin,aUn,if_true,if_false,reduceCtorEq,frame0,place,notTuple,Nat.reduceAdd,Nat.reduceLeDiff,resVal,dite_true,dite_false,Int.reduceEq,Int.reduceLT,Int.reduceLE]
 all_goals
  clear cc2
  refine Ret_rounds (S:=Nat) (fun s=>s) (fun s fr H=>s≤(b-1)∧i'≤s+1∧fr 0=.slice p n cap∧fr 1=.int .i64 (a:Int)∧fr 4=.func (.func cl) #[] cs.toArray∧fr 12=.int .i64 (i':Int)∧fr 13=.int .i64 (s:Int)∧
   H=DH encL G B d1++X∧scanDown (fun x=>!ltC c x d1[a]!) d1 i' (b-1)=scanDown (fun x=>!ltC c x d1[a]!) d1 i' s) (b-1) ⟨Nat.le_refl _,by omega,(by simp only [q0,FB,Nat.reduceEqDiff]),(by simp only [q1,FB,Nat.reduceEqDiff]),(by simp only [q4,FB,Nat.reduceEqDiff]),(by simp only [q12,FB,Nat.reduceEqDiff]),(by simp only [q13,FB,Nat.reduceEqDiff]),rfl,rfl⟩ ?_
  rintro j' fr2 H2 ⟨y1,y2,p0,p1,p4,p12,p13,rfl,hs'⟩ hM
  rw [Ret_code l72_4.eq_1]
  have i4:j'<n:=by omega
  by_cases c4:i'≤j'∧¬c d1[j']! d1[a]!<0
  ·obtain ⟨cc4,cc5⟩:=c4
   have hw3:IntKind.i64.wrap ((j':Int)-1)=((j'-1:Nat):Int):=wrap_pred (by omega) (by omega)
   simp only [n72,r72,p0,p1,p4,p12,p13,cc4,cc5,hw3,ld,st,ix,List.append_nil,Array.size_setIfInBounds,encL_len,hd0,i1,i4,hc,SB,Nat.reduceLT,callee,aOp,ne_eq,Nat.reduceEqDiff,aBin,aUn,if_true,if_false,reduceCtorEq,frame0,place,notTuple,Nat.reduceAdd,Nat.reduceLeDiff,resVal,dite_true,dite_false,Int.reduceEq,Int.reduceLT,Int.reduceLE]
   exact hM (j'-1) _ _ ⟨by omega,by omega,(by simp only [p0,FB,Nat.reduceEqDiff]),(by simp only [p1,FB,Nat.reduceEqDiff]),(by simp only [p4,FB,Nat.reduceEqDiff]),(by simp only [p12,FB,Nat.reduceEqDiff]),(by simp only [FB,Nat.reduceEqDiff]),rfl,by rw [hs',scanDown_step cc4 (by omega) (by simp [ltC,cc5])]⟩ (by omega)
  have hs3:scanDown (fun x=>!ltC c x d1[a]!) d1 i' (b-1)=j':=by
   rw [hs',scanDown_stop]
   intro q
   have q2:c d1[j']! d1[a]!<0:=Classical.byContradiction fun q2=>c4 ⟨q,q2⟩
   simp [ltC,q2]
  clear hM
  by_cases c6:j'<i'
  ·have c7:¬i'≤j':=by omega
   have i6:j'<n:=by omega
   simp only [hs2,hs3] at hT
   rw [if_pos (show i' > j' from c6)] at hT
   simp only [n72,r72,p0,p1,p4,p12,p13,c7,c6,ld,st,ix,List.append_nil,Array.size_setIfInBounds,encL_len,hd0,i1,i6,SB,Nat.reduceLT,callee,aOp,ne_eq,Nat.reduceEqDiff,aBin,aUn,if_true,if_false,reduceCtorEq,frame0,place,notTuple,Nat.reduceAdd,Nat.reduceLeDiff,resVal,dite_true,dite_false,Int.reduceEq,Int.reduceLT,Int.reduceLE]
   rw [←hT]
   exact ⟨rfl,rfl⟩
  ·have c7:i'≤j':=by omega
   have c8:c d1[j']! d1[a]!<0:=Classical.byContradiction fun q=>c4 ⟨c7,q⟩
   have c9:i'≠j':=by
    rintro rfl
    rcases hxx with q | q
    ·exact q.2 c8
    ·exact q (by omega)
   simp only [hs2,hs3] at hT
   rw [if_neg (show ¬i' > j' from c6)] at hT
   have i5:i'<n:=by omega
   have i6:j'<n:=by omega
   have hw3:IntKind.i64.wrap ((j':Int)-1)=((j'-1:Nat):Int):=wrap_pred (by omega) (by omega)
   have hw4:IntKind.i64.wrap ((i':Int)+1)=((i'+1:Nat):Int):=wrap_nat (by omega)
   simp only [n72,r72,p0,p1,p4,p12,p13,c7,c6,c8,hw3,hw4,ld,st,ix,List.append_nil,Array.size_setIfInBounds,encL_len,hd0,i1,i6,i5,hc,SB,Nat.reduceLT,callee,aOp,ne_eq,Nat.reduceEqDiff,aBin,aUn,if_true,if_false,reduceCtorEq,frame0,place,notTuple,Nat.reduceAdd,Nat.reduceLeDiff,resVal,dite_true,dite_false,Int.reduceEq,Int.reduceLT,Int.reduceLE]
   generalize hL:partLoop (ltC c) a (i'+1) (j'-1) (swp d1 i' j')=L at hT
   refine Ret_rounds (S:=(Nat×Nat)×Array Go.Net.Leg) (fun s=>s.1.2+1-s.1.1) (fun s fr H=>a<s.1.1∧s.1.1≤s.1.2+1∧s.1.2<b∧fr 0=.slice p n cap∧fr 1=.int .i64 (a:Int)∧fr 4=.func (.func cl) #[] cs.toArray∧fr 12=.int .i64 (s.1.1:Int)∧fr 13=.int .i64 (s.1.2:Int)∧
    H=DH encL G B s.2++X∧s.2.size=n∧L=partLoop (ltC c) a s.1.1 s.1.2 s.2) ((i'+1,j'-1),swp d1 i' j') ⟨by simp only;omega,by simp only;omega,by simp only;omega,(by simp only [p0,FB,Nat.reduceEqDiff]),(by simp only [p1,FB,Nat.reduceEqDiff]),(by simp only [p4,FB,Nat.reduceEqDiff]),(by simp only [FB,Nat.reduceEqDiff]),(by simp only [FB,Nat.reduceEqDiff]),by simp [swp],by simp [swp,hd0],hL.symm⟩ ?_
   clear hs2 hs3 hs hs' c1 c4 hxx i0 hL
   rintro ⟨⟨i,j⟩,d2⟩ fr H ⟨h1,h2,h3,g0,g1,g4,g12,g13,rfl,hd2,he⟩ hN
   simp only at h1 h2 h3 g12 g13 hd2 he
   rw [Ret_code l72_3.eq_1]
   simp only [n72,r72,SB,Nat.reduceLT,callee,aOp,ne_eq,Nat.reduceEqDiff,aBin,aUn,if_true,if_false,reduceCtorEq,frame0,place,notTuple,Nat.reduceAdd,Nat.reduceLeDiff,resVal,dite_true,dite_false,Int.reduceEq,Int.reduceLT,Int.reduceLE]
   refine Ret_rounds (S:=Nat) (fun s=>b+1-s) (fun s fr H=>i≤s∧s≤j+1∧fr 0=.slice p n cap∧fr 1=.int .i64 (a:Int)∧fr 4=.func (.func cl) #[] cs.toArray∧fr 12=.int .i64 (s:Int)∧fr 13=.int .i64 (j:Int)∧
    H=DH encL G B d2++X∧scanUp (fun u=>ltC c u d2[a]!) d2 j i=scanUp (fun u=>ltC c u d2[a]!) d2 j s) i ⟨Nat.le_refl _,by omega,g0,g1,g4,g12,g13,rfl,rfl⟩ ?_
   rintro x fr1 H1 ⟨x1,k2,q0,q1,q4,q12,q13,rfl,us⟩ hM
   rw [Ret_code l72_2.eq_1]
   by_cases z1:x≤j∧c d2[x]! d2[a]!<0
   ·obtain ⟨cc1,cc2⟩:=z1
    have hw2:IntKind.i64.wrap ((x:Int)+1)=((x+1:Nat):Int):=wrap_nat (by omega)
    have i3:x<n:=by omega
    simp only [n72,r72,q0,q1,q4,q12,q13,cc1,cc2,hw2,ld,st,ix,List.append_nil,Array.size_setIfInBounds,encL_len,hd2,i1,i3,hc,SB,Nat.reduceLT,callee,aOp,ne_eq,Nat.reduceEqDiff,aBin,aUn,if_true,if_false,reduceCtorEq,frame0,place,notTuple,Nat.reduceAdd,Nat.reduceLeDiff,resVal,dite_true,dite_false,Int.reduceEq,Int.reduceLT,Int.reduceLE]
    exact hM (x+1) _ _ ⟨by omega,by omega,(by simp only [q0,FB,Nat.reduceEqDiff]),(by simp only [q1,FB,Nat.reduceEqDiff]),(by simp only [q4,FB,Nat.reduceEqDiff]),(by simp only [FB,Nat.reduceEqDiff]),(by simp only [q13,FB,Nat.reduceEqDiff]),rfl,by rw [us,scanUp_step cc1 (by simp [ltC,cc2])]⟩ (by omega)
   have us2:scanUp (fun u=>ltC c u d2[a]!) d2 j i=x:=by
    rw [us,scanUp_stop]
    intro q
    have q2:¬c d2[x]! d2[a]!<0:=fun q2=>z1 ⟨q,q2⟩
    simp [ltC,q2]
   clear hM
   have hz:(x≤j∧¬c d2[x]! d2[a]!<0)∨¬x≤j:=by
    by_cases q:x≤j
    ·exact .inl ⟨q,fun q2=>z1 ⟨q,q2⟩⟩
    ·exact .inr q
   have i0:x≤j→x<n:=fun q=>by omega
   have hzz:=hz
   rcases hz with ⟨cc2,cc3⟩ | cc2
   case' inl=>simp only [n72,r72,q0,q1,q4,q12,q13,cc2,cc3,ld,st,ix,List.append_nil,Array.size_setIfInBounds,encL_len,hd2,i1,i0 cc2,hc,SB,Nat.reduceLT,callee,aOp,ne_eq,Nat.reduceEqDiff,aBin,aUn,if_true,if_false,reduceCtorEq,frame0,place,notTuple,Nat.reduceAdd,Nat.reduceLeDiff,resVal,dite_true,dite_false,Int.reduceEq,Int.reduceLT,Int.reduceLE]
   case' inr=>simp only [n72,r72,q0,q1,q4,q12,q13,cc2,ld,st,ix,List.append_nil,Array.size_setIfInBounds,encL_len,SB,Nat.reduceLT,callee,aOp,ne_eq,Nat.reduceEqDiff,aBin,aUn,if_true,if_false,reduceCtorEq,frame0,place,notTuple,Nat.reduceAdd,Nat.reduceLeDiff,resVal,dite_true,dite_false,Int.reduceEq,Int.reduceLT,Int.reduceLE]
   all_goals
    clear cc2
    refine Ret_rounds (S:=Nat) (fun s=>s) (fun s fr H=>s≤j∧x≤s+1∧fr 0=.slice p n cap∧fr 1=.int .i64 (a:Int)∧fr 4=.func (.func cl) #[] cs.toArray∧fr 12=.int .i64 (x:Int)∧fr 13=.int .i64 (s:Int)∧
     H=DH encL G B d2++X∧scanDown (fun u=>!ltC c u d2[a]!) d2 x j=scanDown (fun u=>!ltC c u d2[a]!) d2 x s) j ⟨Nat.le_refl _,by omega,(by simp only [q0,FB,Nat.reduceEqDiff]),(by simp only [q1,FB,Nat.reduceEqDiff]),(by simp only [q4,FB,Nat.reduceEqDiff]),(by simp only [q12,FB,Nat.reduceEqDiff]),(by simp only [q13,FB,Nat.reduceEqDiff]),rfl,rfl⟩ ?_
    rintro y fr2 H2 ⟨y1,y2,t0,t1,t4,t12,t13,rfl,us'⟩ hM
    rw [Ret_code l72_1.eq_1]
    have i4:y<n:=by omega
    by_cases z4:x≤y∧¬c d2[y]! d2[a]!<0
    ·obtain ⟨cc4,cc5⟩:=z4
     have hw3:IntKind.i64.wrap ((y:Int)-1)=((y-1:Nat):Int):=wrap_pred (by omega) (by omega)
     simp only [n72,r72,t0,t1,t4,t12,t13,cc4,cc5,hw3,ld,st,ix,List.append_nil,Array.size_setIfInBounds,encL_len,hd2,i1,i4,hc,SB,Nat.reduceLT,callee,aOp,ne_eq,Nat.reduceEqDiff,aBin,aUn,if_true,if_false,reduceCtorEq,frame0,place,notTuple,Nat.reduceAdd,Nat.reduceLeDiff,resVal,dite_true,dite_false,Int.reduceEq,Int.reduceLT,Int.reduceLE]
     exact hM (y-1) _ _ ⟨by omega,by omega,(by simp only [t0,FB,Nat.reduceEqDiff]),(by simp only [t1,FB,Nat.reduceEqDiff]),(by simp only [t4,FB,Nat.reduceEqDiff]),(by simp only [t12,FB,Nat.reduceEqDiff]),(by simp only [FB,Nat.reduceEqDiff]),rfl,by rw [us',scanDown_step cc4 (by omega) (by simp [ltC,cc5])]⟩ (by omega)
    have us3:scanDown (fun u=>!ltC c u d2[a]!) d2 x j=y:=by
     rw [us',scanDown_stop]
     intro q
     have q2:c d2[y]! d2[a]!<0:=Classical.byContradiction fun q2=>z4 ⟨q,q2⟩
     simp [ltC,q2]
    clear hM
    by_cases z6:y<x
    ·have z7:¬x≤y:=by omega
     have i6:y<n:=by omega
     rw [part_stop us2 us3 z6] at he
     simp only [n72,r72,t0,t1,t4,t12,t13,z7,z6,ld,st,ix,List.append_nil,Array.size_setIfInBounds,encL_len,hd2,i1,i6,SB,Nat.reduceLT,callee,aOp,ne_eq,Nat.reduceEqDiff,aBin,aUn,if_true,if_false,reduceCtorEq,frame0,place,notTuple,Nat.reduceAdd,Nat.reduceLeDiff,resVal,dite_true,dite_false,Int.reduceEq,Int.reduceLT,Int.reduceLE]
     rw [←hT,he]
     exact ⟨rfl,rfl⟩
    ·have z7:x≤y:=by omega
     have z8:c d2[y]! d2[a]!<0:=Classical.byContradiction fun q=>z4 ⟨z7,q⟩
     have z9:x≠y:=by
      rintro rfl
      rcases hzz with q | q
      ·exact q.2 z8
      ·exact q (by omega)
     rw [part_next us2 us3 z6 x1 y1 (by omega)] at he
     have i5:x<n:=by omega
     have i6:y<n:=by omega
     have hw5:IntKind.i64.wrap ((y:Int)-1)=((y-1:Nat):Int):=wrap_pred (by omega) (by omega)
     have hw6:IntKind.i64.wrap ((x:Int)+1)=((x+1:Nat):Int):=wrap_nat (by omega)
     simp only [n72,r72,t0,t1,t4,t12,t13,z7,z6,z8,hw5,hw6,ld,st,ix,List.append_nil,Array.size_setIfInBounds,encL_len,hd2,i1,i6,i5,hc,SB,Nat.reduceLT,callee,aOp,ne_eq,Nat.reduceEqDiff,aBin,aUn,if_true,if_false,reduceCtorEq,frame0,place,notTuple,Nat.reduceAdd,Nat.reduceLeDiff,resVal,dite_true,dite_false,Int.reduceEq,Int.reduceLT,Int.reduceLE]
     exact hN ((x+1,y-1),swp d2 x y) _ _ ⟨by simp only;omega,by simp only;omega,by simp only;omega,(by simp only [t0,FB,Nat.reduceEqDiff]),(by simp only [t1,FB,Nat.reduceEqDiff]),(by simp only [t4,FB,Nat.reduceEqDiff]),(by simp only [FB,Nat.reduceEqDiff]),(by simp only [FB,Nat.reduceEqDiff]),by simp [swp],by simp [swp,hd2],he⟩ (by simp only;omega)
theorem scanS_step {α:Type} [Inhabited α] {lt:α→α→Bool} {d:Array α} {b i:Nat} (h:i<b) (hp:lt d[i]! d[i-1]! = false):scanSorted lt d b i=scanSorted lt d b (i+1):=by
 rw [scanSorted];simp [h,hp]
theorem scanS_stop {α:Type} [Inhabited α] {lt:α→α→Bool} {d:Array α} {b i:Nat} (h:i<b→lt d[i]! d[i-1]! = true):scanSorted lt d b i=i:=by
 rw [scanSorted]
 by_cases q:i<b
 ·simp [h q]
 ·simp [q]
def fixDownC {α:Type} [Inhabited α] (lt:α→α→Bool) (a i:Nat) (d:Array α):Array α:=if 2≤i-a then shiftDown lt (i-1) d else d
def fixUpC {α:Type} [Inhabited α] (lt:α→α→Bool) (b i:Nat) (d:Array α):Array α:=if 2≤b-i then shiftUp lt b (i+1) d else d
theorem partialIns_more {α:Type} [Inhabited α] {lt:α→α→Bool} {a b k i i':Nat} {d:Array α} (hs:scanSorted lt d b i=i') (h1:¬i'=b) (h2:¬b-a<50):partialIns lt a b (k+1) i d=partialIns lt a b k i' (fixUpC lt b i' (fixDownC lt a i' (swp d i' (i'-1)))):=by
 rw [partialIns]
 simp only [hs]
 rw [if_neg h1,if_neg h2]
 rfl
theorem pis_ok [OB] {G X:Heap} {B lim cap n:Nat} {p:Option Addr} {c:Go.Net.Leg→Go.Net.Leg→Int} {cl:FuncId} {cs:List Value} {Q:Value→Heap→Prop} (hp:p=some ⟨B,0,none⟩) (hB:B<G.length) (hl:lim≤B) (hn2:n<2 ^ 61) (hc:∀(mp:Bool) (lim:Nat) (x y:Go.Net.Leg) (H:Heap) (Q:Value→Heap→Prop),CallR E mp lim cl (.agg (encL x).toArray::.agg (encL y).toArray::cs) H Q=Q (.int .i64 (c x y)) H) {d:Array Go.Net.Leg} {a b:Nat} (hd:d.size=n) (hb:b≤n) (hab:a<b) :
  CallR E false lim 70 [.slice p n cap,.int .i64 (a:Int),.int .i64 (b:Int),.func (.func cl) #[] cs.toArray] (DH encL G B d++X) Q=Q (.bool (partialInsertionSort (ltC c) d a b).2) (DH encL G B (partialInsertionSort (ltC c) d a b).1++X):=by
 refine runs (by decide) e70 rfl ?_
 rw [b70,c70]
 have hw1:IntKind.i64.wrap ((a:Int)+1)=((a+1:Nat):Int):=wrap_nat (by omega)
 generalize hT:partialInsertionSort (ltC c) d a b=T
 rw [partialInsertionSort] at hT
 have ld:=fun (i:Nat) (X:Heap) (d:Array Go.Net.Leg) (hd:d.size=n) (hi:i<n)=>DH_ld (X:=X) (d:=d) (i:=i) hp hB encL_len (by omega);have st:=fun (i:Nat) (X:Heap) (d:Array Go.Net.Leg) (hd:d.size=n) (hi:i<n) (y:Go.Net.Leg)=>DH_st (X:=X) (d:=d) (i:=i) (y:=y) hp hB hl encL_len (by omega);have ix:=fun (i:Nat) (hi:i<n) c (k:IntKind) (H:Heap)=>DH_idx (e:=8) (i:=i) (n:=n) (c:=c) (k:=k) (H:=H) hp hi
 simp only [n70,r70,hw1,SB,Nat.reduceLT,callee,aOp,ne_eq,Nat.reduceEqDiff,aBin,aUn,if_true,if_false,reduceCtorEq,frame0,place,notTuple,Nat.reduceAdd,Nat.reduceLeDiff,resVal,dite_true,dite_false,Int.reduceEq,Int.reduceLT,Int.reduceLE]
 refine Ret_rounds (S:=Nat×Nat×Array Go.Net.Leg) (fun s=>s.1) (fun s fr H=>s.1≤5∧a<s.2.1∧s.2.1≤b∧fr 0=.slice p n cap∧fr 1=.int .i64 (a:Int)∧fr 2=.int .i64 (b:Int)∧fr 3=.func (.func cl) #[] cs.toArray∧fr 9=.int .i64 (s.2.1:Int)∧fr 10=.int .i64 (5-(s.1:Int))∧
  H=DH encL G B s.2.2++X∧s.2.2.size=n∧T=partialIns (ltC c) a b s.1 s.2.1 s.2.2) (5,a+1,d) ⟨by simp only;omega,by simp only;omega,by simp only;omega,(by simp only [FB,Nat.reduceEqDiff]),(by simp only [FB,Nat.reduceEqDiff]),(by simp only [FB,Nat.reduceEqDiff]),(by simp only [FB,Nat.reduceEqDiff]),(by simp only [FB,Nat.reduceEqDiff]),by rfl,rfl,hd,hT.symm⟩ ?_
 rintro ⟨k,i,d1⟩ fr H ⟨h1,h2,h3,g0,g1,g2,g3,g9,g10,rfl,hd1,he⟩ hN
 simp only at h1 h2 h3 g9 g10 hd1 he
 rw [Ret_code l70_4.eq_1]
 cases k with
 | zero=>
   have g10':fr 10=.int .i64 5:=by simpa using g10
   clear hN g10
   simp only [n70,r70,g0,g1,g2,g3,g9,g10',SB,Nat.reduceLT,callee,aOp,ne_eq,Nat.reduceEqDiff,aBin,aUn,if_true,if_false,reduceCtorEq,frame0,place,notTuple,Nat.reduceAdd,Nat.reduceLeDiff,resVal,dite_true,dite_false,Int.reduceEq,Int.reduceLT,Int.reduceLE]
   rw [he,partialIns]
   exact ⟨rfl,rfl⟩
 | succ k=>
   have hk:(5:Int)-((k+1:Nat):Int)<5:=by omega
   have hwk:IntKind.i64.wrap ((5:Int)-((k+1:Nat):Int)+1)=5-(k:Int):=by rw [wrap_id (by omega) (by omega)];omega
   simp only [n70,r70,g0,g1,g2,g3,g9,g10,hk,SB,Nat.reduceLT,callee,aOp,ne_eq,Nat.reduceEqDiff,aBin,aUn,if_true,if_false,reduceCtorEq,frame0,place,notTuple,Nat.reduceAdd,Nat.reduceLeDiff,resVal,dite_true,dite_false,Int.reduceEq,Int.reduceLT,Int.reduceLE]
   refine Ret_rounds (S:=Nat) (fun s=>b+1-s) (fun s fr H=>i≤s∧s≤b∧fr 0=.slice p n cap∧fr 1=.int .i64 (a:Int)∧fr 2=.int .i64 (b:Int)∧fr 3=.func (.func cl) #[] cs.toArray∧fr 9=.int .i64 (s:Int)∧fr 10=.int .i64 (5-((k+1:Nat):Int))∧
    H=DH encL G B d1++X∧scanSorted (ltC c) d1 b i=scanSorted (ltC c) d1 b s) i ⟨Nat.le_refl _,h3,(by simp only [g0,FB,Nat.reduceEqDiff]),(by simp only [g1,FB,Nat.reduceEqDiff]),(by simp only [g2,FB,Nat.reduceEqDiff]),(by simp only [g3,FB,Nat.reduceEqDiff]),(by simp only [g9,FB,Nat.reduceEqDiff]),(by simp only [g10,FB,Nat.reduceEqDiff]),rfl,rfl⟩ ?_
   rintro i' fr1 H1 ⟨x1,x2,q0,q1,q2,q3,q9,q10,rfl,hs⟩ hM
   rw [Ret_code l70_3.eq_1]
   have hwi:IntKind.i64.wrap ((i':Int)-1)=((i'-1:Nat):Int):=wrap_pred (by omega) (by omega)
   have hwi1:IntKind.i64.wrap ((i':Int)+1)=((i'+1:Nat):Int):=wrap_nat (by omega)
   have hwa:IntKind.i64.wrap ((i':Int)-(a:Int))=((i'-a:Nat):Int):=by rw [wrap_id (by omega) (by omega)];omega
   have hwb:IntKind.i64.wrap ((b:Int)-(i':Int))=((b-i':Nat):Int):=by rw [wrap_id (by omega) (by omega)];omega
   have hwl:IntKind.i64.wrap ((b:Int)-(a:Int))=((b-a:Nat):Int):=by rw [wrap_id (by omega) (by omega)];omega
   have i6:i'-1<n:=by omega
   by_cases c1:i'=b
   ·subst c1
    have hs2:scanSorted (ltC c) d1 i' i=i':=by rw [hs,scanS_stop (fun q=>absurd q (Nat.lt_irrefl _))]
    have c2:¬i'<i':=Nat.lt_irrefl _
    have e:partialIns (ltC c) a i' (k+1) i d1=(d1,true):=by
     rw [partialIns];simp only [hs2];simp
    simp only [n70,r70,q0,q1,q2,q3,q9,q10,c2,ld,st,ix,List.append_nil,Array.size_setIfInBounds,encL_len,SB,Nat.reduceLT,callee,aOp,ne_eq,Nat.reduceEqDiff,aBin,aUn,if_true,if_false,reduceCtorEq,frame0,place,notTuple,Nat.reduceAdd,Nat.reduceLeDiff,resVal,dite_true,dite_false,Int.reduceEq,Int.reduceLT,Int.reduceLE]
    rw [he,e]
    exact ⟨rfl,rfl⟩
   have c2:i'<b:=by omega
   have i5:i'<n:=by omega
   have c1':¬((i':Int)=(b:Int)):=by omega
   by_cases c3:c d1[i']! d1[i'-1]!<0
   case neg=>
    simp only [n70,r70,q0,q1,q2,q3,q9,q10,c2,c3,hwi,hwi1,ld,st,ix,List.append_nil,Array.size_setIfInBounds,encL_len,hd1,i5,i6,hc,SB,Nat.reduceLT,callee,aOp,ne_eq,Nat.reduceEqDiff,aBin,aUn,if_true,if_false,reduceCtorEq,frame0,place,notTuple,Nat.reduceAdd,Nat.reduceLeDiff,resVal,dite_true,dite_false,Int.reduceEq,Int.reduceLT,Int.reduceLE]
    exact hM (i'+1) _ _ ⟨by omega,by omega,(by simp only [q0,FB,Nat.reduceEqDiff]),(by simp only [q1,FB,Nat.reduceEqDiff]),(by simp only [q2,FB,Nat.reduceEqDiff]),(by simp only [q3,FB,Nat.reduceEqDiff]),(by simp only [FB,Nat.reduceEqDiff]),(by simp only [q10,FB,Nat.reduceEqDiff]),rfl,by rw [hs,scanS_step c2 (by simp [ltC,c3])]⟩ (by omega)
   clear hM
   have hs2:scanSorted (ltC c) d1 b i=i':=by rw [hs,scanS_stop (fun _=>by simp [ltC,c3])]
   by_cases c4:b-a<50
   ·have c4':((b-a:Nat):Int)<50:=by omega
    simp only [n70,r70,q0,q1,q2,q3,q9,q10,c2,c3,c1',c4',hwi,hwl,ld,st,ix,List.append_nil,Array.size_setIfInBounds,encL_len,hd1,i5,i6,hc,SB,Nat.reduceLT,callee,aOp,ne_eq,Nat.reduceEqDiff,aBin,aUn,if_true,if_false,reduceCtorEq,frame0,place,notTuple,Nat.reduceAdd,Nat.reduceLeDiff,resVal,dite_true,dite_false,Int.reduceEq,Int.reduceLT,Int.reduceLE]
    have e:partialIns (ltC c) a b (k+1) i d1=(d1,false):=by
     rw [partialIns];simp only [hs2];rw [if_neg c1,if_pos c4]
    rw [he,e]
    exact ⟨rfl,rfl⟩
   have c4':¬((b-a:Nat):Int)<50:=by omega
   rw [partialIns_more hs2 c1 c4] at he
   by_cases hA:2≤i'-a
   ·have hAi:(2:Int)≤((i'-a:Nat):Int):=by omega
    simp only [n70,r70,q0,q1,q2,q3,q9,q10,c2,c3,c1',c4',hwi,hwl,hwa,hAi,ld,st,ix,List.append_nil,Array.size_setIfInBounds,encL_len,hd1,i5,i6,hc,SB,Nat.reduceLT,callee,aOp,ne_eq,Nat.reduceEqDiff,aBin,aUn,if_true,if_false,reduceCtorEq,frame0,place,notTuple,Nat.reduceAdd,Nat.reduceLeDiff,resVal,dite_true,dite_false,Int.reduceEq,Int.reduceLT,Int.reduceLE]
    refine Ret_rounds (S:=Nat×Array Go.Net.Leg) (fun s=>s.1) (fun s fr H=>s.1<i'∧fr 0=.slice p n cap∧fr 1=.int .i64 (a:Int)∧fr 2=.int .i64 (b:Int)∧fr 3=.func (.func cl) #[] cs.toArray∧fr 9=.int .i64 (i':Int)∧fr 10=.int .i64 (5-((k+1:Nat):Int))∧fr 11=.int .i64 (s.1:Int)∧
     H=DH encL G B s.2++X∧s.2.size=n∧shiftDown (ltC c) (i'-1) (swp d1 i' (i'-1))=shiftDown (ltC c) s.1 s.2) (i'-1,swp d1 i' (i'-1)) ⟨by simp only;omega,(by simp only [q0,FB,Nat.reduceEqDiff]),(by simp only [q1,FB,Nat.reduceEqDiff]),(by simp only [q2,FB,Nat.reduceEqDiff]),(by simp only [q3,FB,Nat.reduceEqDiff]),(by simp only [q9,FB,Nat.reduceEqDiff]),(by simp only [q10,FB,Nat.reduceEqDiff]),(by simp only [FB,Nat.reduceEqDiff]),by simp [swp],by simp [swp,hd1],rfl⟩ ?_
    rintro ⟨v,dv⟩ frv Hv ⟨v1,v30,v31,v32,v33,v39,v310,v11,rfl,hdv,hev⟩ hV
    simp only at v1 v11 hdv hev
    rw [Ret_code l70_2.eq_1]
    cases v with
    | succ v=>
      have iv:v+1<n:=by omega
      have iv1:v<n:=by omega
      have hwv:IntKind.i64.wrap (((v+1:Nat):Int)-1)=(v:Int):=wrap_pred (n:=v+1) (by omega) (by omega)
      have cv:(1:Int)≤((v+1:Nat):Int):=by omega
      rw [shiftDown] at hev
      by_cases cv2:c dv[v+1]! dv[v]!<0
      ·rw [if_neg (by simp [ltC,cv2])] at hev
       simp only [n70,r70,v30,v31,v32,v33,v39,v310,v11,cv,cv2,hwv,ld,st,ix,List.append_nil,Array.size_setIfInBounds,encL_len,hdv,iv,iv1,hc,SB,Nat.reduceLT,callee,aOp,ne_eq,Nat.reduceEqDiff,aBin,aUn,if_true,if_false,reduceCtorEq,frame0,place,notTuple,Nat.reduceAdd,Nat.reduceLeDiff,resVal,dite_true,dite_false,Int.reduceEq,Int.reduceLT,Int.reduceLE]
       exact hV (v,swp dv (v+1) v) _ _ ⟨by simp only;omega,(by simp only [v30,FB,Nat.reduceEqDiff]),(by simp only [v31,FB,Nat.reduceEqDiff]),(by simp only [v32,FB,Nat.reduceEqDiff]),(by simp only [v33,FB,Nat.reduceEqDiff]),(by simp only [v39,FB,Nat.reduceEqDiff]),(by simp only [v310,FB,Nat.reduceEqDiff]),(by simp only [FB,Nat.reduceEqDiff]),by simp [swp],by simp [swp,hdv],hev⟩ (by simp only;omega)
      ·rw [if_pos (by simp [ltC,cv2])] at hev
       clear hV
       have hfd:fixDownC (ltC c) a i' (swp d1 i' (i'-1))=dv:=by rw [fixDownC,if_pos hA,hev]
       by_cases hB:2≤b-i'
       ·have hBi:(2:Int)≤((b-i':Nat):Int):=by omega
        simp only [n70,r70,v30,v31,v32,v33,v39,v310,hwb,hBi,hwi1,v11,cv,cv2,hwv,hdv,iv,iv1,hc,ld,st,ix,List.append_nil,Array.size_setIfInBounds,encL_len,SB,Nat.reduceLT,callee,aOp,ne_eq,Nat.reduceEqDiff,aBin,aUn,if_true,if_false,reduceCtorEq,frame0,place,notTuple,Nat.reduceAdd,Nat.reduceLeDiff,resVal,dite_true,dite_false,Int.reduceEq,Int.reduceLT,Int.reduceLE]
        generalize hU:shiftUp (ltC c) b (i'+1) (dv)=U
        refine Ret_rounds (S:=Nat×Array Go.Net.Leg) (fun s=>b+1-s.1) (fun s fr H=>i'+1≤s.1∧s.1≤b∧fr 0=.slice p n cap∧fr 1=.int .i64 (a:Int)∧fr 2=.int .i64 (b:Int)∧fr 3=.func (.func cl) #[] cs.toArray∧fr 9=.int .i64 (i':Int)∧fr 10=.int .i64 (5-((k+1:Nat):Int))∧fr 12=.int .i64 (s.1:Int)∧
         H=DH encL G B s.2++X∧s.2.size=n∧U=shiftUp (ltC c) b s.1 s.2) (i'+1,dv) ⟨by simp only;omega,by simp only;omega,(by simp only [v30,FB,Nat.reduceEqDiff]),(by simp only [v31,FB,Nat.reduceEqDiff]),(by simp only [v32,FB,Nat.reduceEqDiff]),(by simp only [v33,FB,Nat.reduceEqDiff]),(by simp only [v39,FB,Nat.reduceEqDiff]),(by simp only [v310,FB,Nat.reduceEqDiff]),(by simp only [FB,Nat.reduceEqDiff]),by simp [swp],by simp [swp,hdv],hU.symm⟩ ?_
        rintro ⟨w,dw⟩ frw Hw ⟨w1,w2,w3,w4,w5,w6,w9,w10,w12,rfl,hdw,hew⟩ hW
        simp only at w1 w2 w12 hdw hew
        rw [Ret_code l70_1.eq_1]
        unfold shiftUp at hew
        by_cases cw:w<b
        ·have iw:w<n:=by omega
         have iw1:w-1<n:=by omega
         have hww:IntKind.i64.wrap ((w:Int)-1)=((w-1:Nat):Int):=wrap_pred (by omega) (by omega)
         have hww1:IntKind.i64.wrap ((w:Int)+1)=((w+1:Nat):Int):=wrap_nat (by omega)
         by_cases cw2:c dw[w]! dw[w-1]!<0
         ·rw [if_pos cw,if_neg (by simp [ltC,cw2])] at hew
          simp only [n70,r70,w3,w4,w5,w6,w9,w10,w12,cw,cw2,hww,hww1,ld,st,ix,List.append_nil,Array.size_setIfInBounds,encL_len,hdw,iw,iw1,hc,SB,Nat.reduceLT,callee,aOp,ne_eq,Nat.reduceEqDiff,aBin,aUn,if_true,if_false,reduceCtorEq,frame0,place,notTuple,Nat.reduceAdd,Nat.reduceLeDiff,resVal,dite_true,dite_false,Int.reduceEq,Int.reduceLT,Int.reduceLE]
          exact hW (w+1,swp dw w (w-1)) _ _ ⟨by simp only;omega,by simp only;omega,(by simp only [w3,FB,Nat.reduceEqDiff]),(by simp only [w4,FB,Nat.reduceEqDiff]),(by simp only [w5,FB,Nat.reduceEqDiff]),(by simp only [w6,FB,Nat.reduceEqDiff]),(by simp only [w9,FB,Nat.reduceEqDiff]),(by simp only [w10,FB,Nat.reduceEqDiff]),(by simp only [FB,Nat.reduceEqDiff]),by simp [swp],by simp [swp,hdw],hew⟩ (by simp only;omega)
         ·rw [if_pos cw,if_pos (by simp [ltC,cw2])] at hew
          clear hW
          simp only [n70,r70,w3,w4,w5,w6,w9,w10,w12,cw,cw2,hww,hww1,ld,st,ix,List.append_nil,Array.size_setIfInBounds,encL_len,hdw,iw,iw1,hc,hwk,SB,Nat.reduceLT,callee,aOp,ne_eq,Nat.reduceEqDiff,aBin,aUn,if_true,if_false,reduceCtorEq,frame0,place,notTuple,Nat.reduceAdd,Nat.reduceLeDiff,resVal,dite_true,dite_false,Int.reduceEq,Int.reduceLT,Int.reduceLE]
          exact hN (k,i',dw) _ _ ⟨by simp only;omega,by simp only;omega,by simp only;omega,(by simp only [w3,FB,Nat.reduceEqDiff]),(by simp only [w4,FB,Nat.reduceEqDiff]),(by simp only [w5,FB,Nat.reduceEqDiff]),(by simp only [w6,FB,Nat.reduceEqDiff]),(by simp only [w9,FB,Nat.reduceEqDiff]),(by simp only [FB,Nat.reduceEqDiff]),by simp,hdw,by rw [he,hfd,fixUpC,if_pos hB,hU,hew]⟩ (by simp only;omega)
        ·rw [if_neg cw] at hew
         clear hW
         simp only [n70,r70,w3,w4,w5,w6,w9,w10,w12,cw,ld,st,ix,List.append_nil,Array.size_setIfInBounds,encL_len,hwk,SB,Nat.reduceLT,callee,aOp,ne_eq,Nat.reduceEqDiff,aBin,aUn,if_true,if_false,reduceCtorEq,frame0,place,notTuple,Nat.reduceAdd,Nat.reduceLeDiff,resVal,dite_true,dite_false,Int.reduceEq,Int.reduceLT,Int.reduceLE]
         exact hN (k,i',dw) _ _ ⟨by simp only;omega,by simp only;omega,by simp only;omega,(by simp only [w3,FB,Nat.reduceEqDiff]),(by simp only [w4,FB,Nat.reduceEqDiff]),(by simp only [w5,FB,Nat.reduceEqDiff]),(by simp only [w6,FB,Nat.reduceEqDiff]),(by simp only [w9,FB,Nat.reduceEqDiff]),(by simp only [FB,Nat.reduceEqDiff]),by simp,hdw,by rw [he,hfd,fixUpC,if_pos hB,hU,hew]⟩ (by simp only;omega)
       ·have hBi:¬(2:Int)≤((b-i':Nat):Int):=by omega
        simp only [n70,r70,v30,v31,v32,v33,v39,v310,hwb,hBi,hwk,v11,cv,cv2,hwv,hdv,iv,iv1,hc,ld,st,ix,List.append_nil,Array.size_setIfInBounds,encL_len,SB,Nat.reduceLT,callee,aOp,ne_eq,Nat.reduceEqDiff,aBin,aUn,if_true,if_false,reduceCtorEq,frame0,place,notTuple,Nat.reduceAdd,Nat.reduceLeDiff,resVal,dite_true,dite_false,Int.reduceEq,Int.reduceLT,Int.reduceLE]
        exact hN (k,i',dv) _ _ ⟨by simp only;omega,by simp only;omega,by simp only;omega,(by simp only [v30,FB,Nat.reduceEqDiff]),(by simp only [v31,FB,Nat.reduceEqDiff]),(by simp only [v32,FB,Nat.reduceEqDiff]),(by simp only [v33,FB,Nat.reduceEqDiff]),(by simp only [v39,FB,Nat.reduceEqDiff]),(by simp only [FB,Nat.reduceEqDiff]),by simp [swp],by simp [swp,hdv],by rw [he,hfd,fixUpC,if_neg hB]⟩ (by simp only;omega)
    | zero=>
      have cv:¬(1:Int)≤((0:Nat):Int):=by omega
      rw [shiftDown] at hev
      clear hV
      have hfd:fixDownC (ltC c) a i' (swp d1 i' (i'-1))=dv:=by rw [fixDownC,if_pos hA,hev]
      by_cases hB:2≤b-i'
      ·have hBi:(2:Int)≤((b-i':Nat):Int):=by omega
       simp only [n70,r70,v30,v31,v32,v33,v39,v310,hwb,hBi,hwi1,v11,cv,ld,st,ix,List.append_nil,Array.size_setIfInBounds,encL_len,SB,Nat.reduceLT,callee,aOp,ne_eq,Nat.reduceEqDiff,aBin,aUn,if_true,if_false,reduceCtorEq,frame0,place,notTuple,Nat.reduceAdd,Nat.reduceLeDiff,resVal,dite_true,dite_false,Int.reduceEq,Int.reduceLT,Int.reduceLE]
       generalize hU:shiftUp (ltC c) b (i'+1) (dv)=U
       refine Ret_rounds (S:=Nat×Array Go.Net.Leg) (fun s=>b+1-s.1) (fun s fr H=>i'+1≤s.1∧s.1≤b∧fr 0=.slice p n cap∧fr 1=.int .i64 (a:Int)∧fr 2=.int .i64 (b:Int)∧fr 3=.func (.func cl) #[] cs.toArray∧fr 9=.int .i64 (i':Int)∧fr 10=.int .i64 (5-((k+1:Nat):Int))∧fr 12=.int .i64 (s.1:Int)∧
        H=DH encL G B s.2++X∧s.2.size=n∧U=shiftUp (ltC c) b s.1 s.2) (i'+1,dv) ⟨by simp only;omega,by simp only;omega,(by simp only [v30,FB,Nat.reduceEqDiff]),(by simp only [v31,FB,Nat.reduceEqDiff]),(by simp only [v32,FB,Nat.reduceEqDiff]),(by simp only [v33,FB,Nat.reduceEqDiff]),(by simp only [v39,FB,Nat.reduceEqDiff]),(by simp only [v310,FB,Nat.reduceEqDiff]),(by simp only [FB,Nat.reduceEqDiff]),by simp [swp],by simp [swp,hdv],hU.symm⟩ ?_
       rintro ⟨w,dw⟩ frw Hw ⟨w1,w2,w3,w4,w5,w6,w9,w10,w12,rfl,hdw,hew⟩ hW
       simp only at w1 w2 w12 hdw hew
       rw [Ret_code l70_1.eq_1]
       unfold shiftUp at hew
       by_cases cw:w<b
       ·have iw:w<n:=by omega
        have iw1:w-1<n:=by omega
        have hww:IntKind.i64.wrap ((w:Int)-1)=((w-1:Nat):Int):=wrap_pred (by omega) (by omega)
        have hww1:IntKind.i64.wrap ((w:Int)+1)=((w+1:Nat):Int):=wrap_nat (by omega)
        by_cases cw2:c dw[w]! dw[w-1]!<0
        ·rw [if_pos cw,if_neg (by simp [ltC,cw2])] at hew
         simp only [n70,r70,w3,w4,w5,w6,w9,w10,w12,cw,cw2,hww,hww1,ld,st,ix,List.append_nil,Array.size_setIfInBounds,encL_len,hdw,iw,iw1,hc,SB,Nat.reduceLT,callee,aOp,ne_eq,Nat.reduceEqDiff,aBin,aUn,if_true,if_false,reduceCtorEq,frame0,place,notTuple,Nat.reduceAdd,Nat.reduceLeDiff,resVal,dite_true,dite_false,Int.reduceEq,Int.reduceLT,Int.reduceLE]
         exact hW (w+1,swp dw w (w-1)) _ _ ⟨by simp only;omega,by simp only;omega,(by simp only [w3,FB,Nat.reduceEqDiff]),(by simp only [w4,FB,Nat.reduceEqDiff]),(by simp only [w5,FB,Nat.reduceEqDiff]),(by simp only [w6,FB,Nat.reduceEqDiff]),(by simp only [w9,FB,Nat.reduceEqDiff]),(by simp only [w10,FB,Nat.reduceEqDiff]),(by simp only [FB,Nat.reduceEqDiff]),by simp [swp],by simp [swp,hdw],hew⟩ (by simp only;omega)
        ·rw [if_pos cw,if_pos (by simp [ltC,cw2])] at hew
         clear hW
         simp only [n70,r70,w3,w4,w5,w6,w9,w10,w12,cw,cw2,hww,hww1,ld,st,ix,List.append_nil,Array.size_setIfInBounds,encL_len,hdw,iw,iw1,hc,hwk,SB,Nat.reduceLT,callee,aOp,ne_eq,Nat.reduceEqDiff,aBin,aUn,if_true,if_false,reduceCtorEq,frame0,place,notTuple,Nat.reduceAdd,Nat.reduceLeDiff,resVal,dite_true,dite_false,Int.reduceEq,Int.reduceLT,Int.reduceLE]
         exact hN (k,i',dw) _ _ ⟨by simp only;omega,by simp only;omega,by simp only;omega,(by simp only [w3,FB,Nat.reduceEqDiff]),(by simp only [w4,FB,Nat.reduceEqDiff]),(by simp only [w5,FB,Nat.reduceEqDiff]),(by simp only [w6,FB,Nat.reduceEqDiff]),(by simp only [w9,FB,Nat.reduceEqDiff]),(by simp only [FB,Nat.reduceEqDiff]),by simp,hdw,by rw [he,hfd,fixUpC,if_pos hB,hU,hew]⟩ (by simp only;omega)
       ·rw [if_neg cw] at hew
        clear hW
        simp only [n70,r70,w3,w4,w5,w6,w9,w10,w12,cw,ld,st,ix,List.append_nil,Array.size_setIfInBounds,encL_len,hwk,SB,Nat.reduceLT,callee,aOp,ne_eq,Nat.reduceEqDiff,aBin,aUn,if_true,if_false,reduceCtorEq,frame0,place,notTuple,Nat.reduceAdd,Nat.reduceLeDiff,resVal,dite_true,dite_false,Int.reduceEq,Int.reduceLT,Int.reduceLE]
        exact hN (k,i',dw) _ _ ⟨by simp only;omega,by simp only;omega,by simp only;omega,(by simp only [w3,FB,Nat.reduceEqDiff]),(by simp only [w4,FB,Nat.reduceEqDiff]),(by simp only [w5,FB,Nat.reduceEqDiff]),(by simp only [w6,FB,Nat.reduceEqDiff]),(by simp only [w9,FB,Nat.reduceEqDiff]),(by simp only [FB,Nat.reduceEqDiff]),by simp,hdw,by rw [he,hfd,fixUpC,if_pos hB,hU,hew]⟩ (by simp only;omega)
      ·have hBi:¬(2:Int)≤((b-i':Nat):Int):=by omega
       simp only [n70,r70,v30,v31,v32,v33,v39,v310,hwb,hBi,hwk,v11,cv,ld,st,ix,List.append_nil,Array.size_setIfInBounds,encL_len,SB,Nat.reduceLT,callee,aOp,ne_eq,Nat.reduceEqDiff,aBin,aUn,if_true,if_false,reduceCtorEq,frame0,place,notTuple,Nat.reduceAdd,Nat.reduceLeDiff,resVal,dite_true,dite_false,Int.reduceEq,Int.reduceLT,Int.reduceLE]
       exact hN (k,i',dv) _ _ ⟨by simp only;omega,by simp only;omega,by simp only;omega,(by simp only [v30,FB,Nat.reduceEqDiff]),(by simp only [v31,FB,Nat.reduceEqDiff]),(by simp only [v32,FB,Nat.reduceEqDiff]),(by simp only [v33,FB,Nat.reduceEqDiff]),(by simp only [v39,FB,Nat.reduceEqDiff]),(by simp only [FB,Nat.reduceEqDiff]),by simp [swp],by simp [swp,hdv],by rw [he,hfd,fixUpC,if_neg hB]⟩ (by simp only;omega)
   ·have hAi:¬(2:Int)≤((i'-a:Nat):Int):=by omega
    have hfd:fixDownC (ltC c) a i' (swp d1 i' (i'-1))=swp d1 i' (i'-1):=by rw [fixDownC,if_neg hA]
    have hsz:(swp d1 i' (i'-1)).size=n:=by simp [swp,hd1]
    by_cases hB:2≤b-i'
    ·have hBi:(2:Int)≤((b-i':Nat):Int):=by omega
     simp only [n70,r70,q0,q1,q2,q3,q9,q10,hwb,hBi,hwi1,c2,c3,c1',c4',hwi,hwl,hwa,hAi,hd1,i5,i6,hc,ld,st,ix,List.append_nil,Array.size_setIfInBounds,encL_len,SB,Nat.reduceLT,callee,aOp,ne_eq,Nat.reduceEqDiff,aBin,aUn,if_true,if_false,reduceCtorEq,frame0,place,notTuple,Nat.reduceAdd,Nat.reduceLeDiff,resVal,dite_true,dite_false,Int.reduceEq,Int.reduceLT,Int.reduceLE]
     generalize hU:shiftUp (ltC c) b (i'+1) (swp d1 i' (i'-1))=U
     refine Ret_rounds (S:=Nat×Array Go.Net.Leg) (fun s=>b+1-s.1) (fun s fr H=>i'+1≤s.1∧s.1≤b∧fr 0=.slice p n cap∧fr 1=.int .i64 (a:Int)∧fr 2=.int .i64 (b:Int)∧fr 3=.func (.func cl) #[] cs.toArray∧fr 9=.int .i64 (i':Int)∧fr 10=.int .i64 (5-((k+1:Nat):Int))∧fr 12=.int .i64 (s.1:Int)∧
      H=DH encL G B s.2++X∧s.2.size=n∧U=shiftUp (ltC c) b s.1 s.2) (i'+1,swp d1 i' (i'-1)) ⟨by simp only;omega,by simp only;omega,(by simp only [q0,FB,Nat.reduceEqDiff]),(by simp only [q1,FB,Nat.reduceEqDiff]),(by simp only [q2,FB,Nat.reduceEqDiff]),(by simp only [q3,FB,Nat.reduceEqDiff]),(by simp only [q9,FB,Nat.reduceEqDiff]),(by simp only [q10,FB,Nat.reduceEqDiff]),(by simp only [FB,Nat.reduceEqDiff]),by simp [swp],by simp [swp,hd1],hU.symm⟩ ?_
     rintro ⟨w,dw⟩ frw Hw ⟨w1,w2,w3,w4,w5,w6,w9,w10,w12,rfl,hdw,hew⟩ hW
     simp only at w1 w2 w12 hdw hew
     rw [Ret_code l70_1.eq_1]
     unfold shiftUp at hew
     by_cases cw:w<b
     ·have iw:w<n:=by omega
      have iw1:w-1<n:=by omega
      have hww:IntKind.i64.wrap ((w:Int)-1)=((w-1:Nat):Int):=wrap_pred (by omega) (by omega)
      have hww1:IntKind.i64.wrap ((w:Int)+1)=((w+1:Nat):Int):=wrap_nat (by omega)
      by_cases cw2:c dw[w]! dw[w-1]!<0
      ·rw [if_pos cw,if_neg (by simp [ltC,cw2])] at hew
       simp only [n70,r70,w3,w4,w5,w6,w9,w10,w12,cw,cw2,hww,hww1,ld,st,ix,List.append_nil,Array.size_setIfInBounds,encL_len,hdw,iw,iw1,hc,SB,Nat.reduceLT,callee,aOp,ne_eq,Nat.reduceEqDiff,aBin,aUn,if_true,if_false,reduceCtorEq,frame0,place,notTuple,Nat.reduceAdd,Nat.reduceLeDiff,resVal,dite_true,dite_false,Int.reduceEq,Int.reduceLT,Int.reduceLE]
       exact hW (w+1,swp dw w (w-1)) _ _ ⟨by simp only;omega,by simp only;omega,(by simp only [w3,FB,Nat.reduceEqDiff]),(by simp only [w4,FB,Nat.reduceEqDiff]),(by simp only [w5,FB,Nat.reduceEqDiff]),(by simp only [w6,FB,Nat.reduceEqDiff]),(by simp only [w9,FB,Nat.reduceEqDiff]),(by simp only [w10,FB,Nat.reduceEqDiff]),(by simp only [FB,Nat.reduceEqDiff]),by simp [swp],by simp [swp,hdw],hew⟩ (by simp only;omega)
      ·rw [if_pos cw,if_pos (by simp [ltC,cw2])] at hew
       clear hW
       simp only [n70,r70,w3,w4,w5,w6,w9,w10,w12,cw,cw2,hww,hww1,ld,st,ix,List.append_nil,Array.size_setIfInBounds,encL_len,hdw,iw,iw1,hc,hwk,SB,Nat.reduceLT,callee,aOp,ne_eq,Nat.reduceEqDiff,aBin,aUn,if_true,if_false,reduceCtorEq,frame0,place,notTuple,Nat.reduceAdd,Nat.reduceLeDiff,resVal,dite_true,dite_false,Int.reduceEq,Int.reduceLT,Int.reduceLE]
       exact hN (k,i',dw) _ _ ⟨by simp only;omega,by simp only;omega,by simp only;omega,(by simp only [w3,FB,Nat.reduceEqDiff]),(by simp only [w4,FB,Nat.reduceEqDiff]),(by simp only [w5,FB,Nat.reduceEqDiff]),(by simp only [w6,FB,Nat.reduceEqDiff]),(by simp only [w9,FB,Nat.reduceEqDiff]),(by simp only [FB,Nat.reduceEqDiff]),by simp,hdw,by rw [he,hfd,fixUpC,if_pos hB,hU,hew]⟩ (by simp only;omega)
     ·rw [if_neg cw] at hew
      clear hW
      simp only [n70,r70,w3,w4,w5,w6,w9,w10,w12,cw,ld,st,ix,List.append_nil,Array.size_setIfInBounds,encL_len,hwk,SB,Nat.reduceLT,callee,aOp,ne_eq,Nat.reduceEqDiff,aBin,aUn,if_true,if_false,reduceCtorEq,frame0,place,notTuple,Nat.reduceAdd,Nat.reduceLeDiff,resVal,dite_true,dite_false,Int.reduceEq,Int.reduceLT,Int.reduceLE]
      exact hN (k,i',dw) _ _ ⟨by simp only;omega,by simp only;omega,by simp only;omega,(by simp only [w3,FB,Nat.reduceEqDiff]),(by simp only [w4,FB,Nat.reduceEqDiff]),(by simp only [w5,FB,Nat.reduceEqDiff]),(by simp only [w6,FB,Nat.reduceEqDiff]),(by simp only [w9,FB,Nat.reduceEqDiff]),(by simp only [FB,Nat.reduceEqDiff]),by simp,hdw,by rw [he,hfd,fixUpC,if_pos hB,hU,hew]⟩ (by simp only;omega)
    ·have hBi:¬(2:Int)≤((b-i':Nat):Int):=by omega
     simp only [n70,r70,q0,q1,q2,q3,q9,q10,hwb,hBi,hwk,c2,c3,c1',c4',hwi,hwl,hwa,hAi,hd1,i5,i6,hc,ld,st,ix,List.append_nil,Array.size_setIfInBounds,encL_len,SB,Nat.reduceLT,callee,aOp,ne_eq,Nat.reduceEqDiff,aBin,aUn,if_true,if_false,reduceCtorEq,frame0,place,notTuple,Nat.reduceAdd,Nat.reduceLeDiff,resVal,dite_true,dite_false,Int.reduceEq,Int.reduceLT,Int.reduceLE]
     exact hN (k,i',swp d1 i' (i'-1)) _ _ ⟨by simp only;omega,by simp only;omega,by simp only;omega,(by simp only [q0,FB,Nat.reduceEqDiff]),(by simp only [q1,FB,Nat.reduceEqDiff]),(by simp only [q2,FB,Nat.reduceEqDiff]),(by simp only [q3,FB,Nat.reduceEqDiff]),(by simp only [q9,FB,Nat.reduceEqDiff]),(by simp only [FB,Nat.reduceEqDiff]),by simp [swp],by simp [swp,hd1],by rw [he,hfd,fixUpC,if_neg hB]⟩ (by simp only;omega)
section
variable {α:Type} {enc:α→List Value} {G X:Heap} {B:Nat} {d:Array α} {c:Blk}
theorem cnt_len:(DH enc G B d++X).length=G.length+X.length:=by rw [List.length_append,DH_len]
theorem cnt_get:hget (DH enc G B d++(X++[c])) (G.length+X.length)=c:=by
 rw [←List.append_assoc,←cnt_len (enc:=enc) (B:=B) (d:=d)];exact hget_new0
theorem cnt_set {c':Blk}:(DH enc G B d++(X++[c])).set (G.length+X.length) c'=DH enc G B d++(X++[c']):=by
 rw [←List.append_assoc,←cnt_len (enc:=enc) (B:=B) (d:=d),set_new0];simp
end
theorem ord_ok [OB] {G X:Heap} {B lim cap n:Nat} {p:Option Addr} {c:Go.Net.Leg→Go.Net.Leg→Int} {cl:FuncId} {cs:List Value} (hp:p=some ⟨B,0,none⟩) (hB:B<G.length) (hl:lim≤B) (hn2:n<2 ^ 61) (hc:∀(mp:Bool) (lim:Nat) (x y:Go.Net.Leg) (H:Heap) (Q:Value→Heap→Prop),CallR E mp lim cl (.agg (encL x).toArray::.agg (encL y).toArray::cs) H Q=Q (.int .i64 (c x y)) H) {d:Array Go.Net.Leg} {a b s:Nat} (hd:d.size=n) (ha:a<n) (hb:b<n) (hs:s<100) :
  ∃x y s':Nat,(x=a∧y=b∨x=b∧y=a)∧s'≤s+1∧∀Q,CallR E false lim 80 [.slice p n cap,.int .i64 (a:Int),.int .i64 (b:Int),.pointer (some ⟨G.length+X.length,0,none⟩),.func (.func cl) #[] cs.toArray] (DH encL G B d++(X++[.cells false [.int .i64 (s:Int)]])) Q =
   Q (.tuple #[.int .i64 (x:Int),.int .i64 (y:Int)]) (DH encL G B d++(X++[.cells false [.int .i64 (s':Int)]])):=by
 have ld:=fun (i:Nat) (X:Heap) (d:Array Go.Net.Leg) (hd:d.size=n) (hi:i<n)=>DH_ld (X:=X) (d:=d) (i:=i) hp hB encL_len (by omega);have st:=fun (i:Nat) (X:Heap) (d:Array Go.Net.Leg) (hd:d.size=n) (hi:i<n) (y:Go.Net.Leg)=>DH_st (X:=X) (d:=d) (i:=i) (y:=y) hp hB hl encL_len (by omega);have ix:=fun (i:Nat) (hi:i<n) c (k:IntKind) (H:Heap)=>DH_idx (e:=8) (i:=i) (n:=n) (c:=c) (k:=k) (H:=H) hp hi
 have hw:IntKind.i64.wrap ((s:Int)+1)=((s+1:Nat):Int):=wrap_nat (by omega)
 have hlG:lim≤G.length+X.length:=by omega
 by_cases c1:c d[b]! d[a]!<0
 ·refine ⟨b,a,s+1,.inr ⟨rfl,rfl⟩,Nat.le_refl _,fun Q=>runs (by decide) e80 rfl ?_⟩
  rw [b80,c80]
  simp only [n80,r80,ld,st,ix,List.append_nil,Array.size_setIfInBounds,encL_len,hd,ha,hb,hc,c1,cnt_get,cnt_set,hw,hlG,SB,Nat.reduceLT,callee,aOp,ne_eq,Nat.reduceEqDiff,aBin,aUn,if_true,if_false,reduceCtorEq,frame0,place,notTuple,Nat.reduceAdd,Nat.reduceLeDiff,resVal,dite_true,dite_false,Int.reduceEq,Int.reduceLT,Int.reduceLE]
 ·refine ⟨a,b,s,.inl ⟨rfl,rfl⟩,by omega,fun Q=>runs (by decide) e80 rfl ?_⟩
  rw [b80,c80]
  simp only [n80,r80,ld,st,ix,List.append_nil,Array.size_setIfInBounds,encL_len,hd,ha,hb,hc,c1,SB,Nat.reduceLT,callee,aOp,ne_eq,Nat.reduceEqDiff,aBin,aUn,if_true,if_false,reduceCtorEq,frame0,place,notTuple,Nat.reduceAdd,Nat.reduceLeDiff,resVal,dite_true,dite_false,Int.reduceEq,Int.reduceLT,Int.reduceLE]
theorem med_ok [OB] {G X:Heap} {B lim cap n:Nat} {p:Option Addr} {c:Go.Net.Leg→Go.Net.Leg→Int} {cl:FuncId} {cs:List Value} (hp:p=some ⟨B,0,none⟩) (hB:B<G.length) (hl:lim≤B) (hn2:n<2 ^ 61) (hc:∀(mp:Bool) (lim:Nat) (x y:Go.Net.Leg) (H:Heap) (Q:Value→Heap→Prop),CallR E mp lim cl (.agg (encL x).toArray::.agg (encL y).toArray::cs) H Q=Q (.int .i64 (c x y)) H) {d:Array Go.Net.Leg} {a b e s:Nat} (hd:d.size=n) (ha:a<n) (hb:b<n) (he:e<n) (hs:s<90) :
  ∃x s':Nat,(x=a∨x=b∨x=e)∧s'≤s+3∧∀Q,CallR E false lim 79 [.slice p n cap,.int .i64 (a:Int),.int .i64 (b:Int),.int .i64 (e:Int),.pointer (some ⟨G.length+X.length,0,none⟩),.func (.func cl) #[] cs.toArray] (DH encL G B d++(X++[.cells false [.int .i64 (s:Int)]])) Q =
   Q (.int .i64 (x:Int)) (DH encL G B d++(X++[.cells false [.int .i64 (s':Int)]])):=by
 obtain ⟨x1,y1,s1,h1,k1,o1⟩:=ord_ok (X:=X) (cap:=cap) (lim:=lim) hp hB hl hn2 hc hd ha hb (show s<100 by omega)
 obtain ⟨x2,y2,s2,h2,k2,o2⟩:=ord_ok (X:=X) (cap:=cap) (lim:=lim) hp hB hl hn2 hc hd (show y1<n by omega) he (show s1<100 by omega)
 obtain ⟨x3,y3,s3,h3,k3,o3⟩:=ord_ok (X:=X) (cap:=cap) (lim:=lim) hp hB hl hn2 hc hd (show x1<n by omega) (show x2<n by omega) (show s2<100 by omega)
 refine ⟨y3,s3,by omega,by omega,fun Q=>runs (by decide) e79 rfl ?_⟩
 rw [b79,c79]
 simp only [n79,r79,o1,o2,o3,SB,Nat.reduceLT,callee,aOp,ne_eq,Nat.reduceEqDiff,aBin,aUn,if_true,if_false,reduceCtorEq,frame0,place,notTuple,Nat.reduceAdd,Nat.reduceLeDiff,resVal,dite_true,dite_false,Int.reduceEq,Int.reduceLT,Int.reduceLE]
theorem meda_ok [OB] {G X:Heap} {B lim cap n:Nat} {p:Option Addr} {c:Go.Net.Leg→Go.Net.Leg→Int} {cl:FuncId} {cs:List Value} (hp:p=some ⟨B,0,none⟩) (hB:B<G.length) (hl:lim≤B) (hn2:n<2 ^ 61) (hc:∀(mp:Bool) (lim:Nat) (x y:Go.Net.Leg) (H:Heap) (Q:Value→Heap→Prop),CallR E mp lim cl (.agg (encL x).toArray::.agg (encL y).toArray::cs) H Q=Q (.int .i64 (c x y)) H) {d:Array Go.Net.Leg} {a s:Nat} (hd:d.size=n) (h0:0<a) (ha:a+1<n) (hs:s<90) :
  ∃x s':Nat,a≤x+1∧x≤a+1∧s'≤s+3∧∀Q,CallR E false lim 78 [.slice p n cap,.int .i64 (a:Int),.pointer (some ⟨G.length+X.length,0,none⟩),.func (.func cl) #[] cs.toArray] (DH encL G B d++(X++[.cells false [.int .i64 (s:Int)]])) Q =
   Q (.int .i64 (x:Int)) (DH encL G B d++(X++[.cells false [.int .i64 (s':Int)]])):=by
 obtain ⟨x1,s1,h1,k1,o1⟩:=med_ok (X:=X) (cap:=cap) (lim:=lim) (a:=a-1) (b:=a) (e:=a+1) hp hB hl hn2 hc hd (by omega) (by omega) (by omega) hs
 have hw1:IntKind.i64.wrap ((a:Int)-1)=((a-1:Nat):Int):=wrap_pred (by omega) (by omega)
 have hw2:IntKind.i64.wrap ((a:Int)+1)=((a+1:Nat):Int):=wrap_nat (by omega)
 refine ⟨x1,s1,by omega,by omega,k1,fun Q=>runs (by decide) e78 rfl ?_⟩
 rw [b78,c78]
 simp only [n78,r78,hw1,hw2,o1,SB,Nat.reduceLT,callee,aOp,ne_eq,Nat.reduceEqDiff,aBin,aUn,if_true,if_false,reduceCtorEq,frame0,place,notTuple,Nat.reduceAdd,Nat.reduceLeDiff,resVal,dite_true,dite_false,Int.reduceEq,Int.reduceLT,Int.reduceLE]
theorem wrap_int {m:Int} {k:Nat} (h:m=(k:Int)) (hk:k<2 ^ 62):IntKind.i64.wrap m=(k:Int):=by
 subst h;exact wrap_id (by omega) (by omega)
theorem tdiv_nat {a b:Nat}:(a:Int).tdiv (b:Int)=((a / b:Nat):Int):=by
 rw [Int.tdiv_eq_ediv_of_nonneg (by omega)];rfl
theorem cho_ok [OB] {G X:Heap} {B lim cap n:Nat} {p:Option Addr} {c:Go.Net.Leg→Go.Net.Leg→Int} {cl:FuncId} {cs:List Value} (hp:p=some ⟨B,0,none⟩) (hB:B<G.length) (hl:lim≤B) (hn2:n<2 ^ 61) (hc:∀(mp:Bool) (lim:Nat) (x y:Go.Net.Leg) (H:Heap) (Q:Value→Heap→Prop),CallR E mp lim cl (.agg (encL x).toArray::.agg (encL y).toArray::cs) H Q=Q (.int .i64 (c x y)) H) {d:Array Go.Net.Leg} {a b:Nat} (hd:d.size=n) (hb:b≤n) (hab:a+12<b) :
  ∃v h s:Nat,a≤v∧v<b∧h≤2∧∀Q,CallR E false lim 68 [.slice p n cap,.int .i64 (a:Int),.int .i64 (b:Int),.func (.func cl) #[] cs.toArray] (DH encL G B d++X) Q =
   Q (.tuple #[.int .i64 (v:Int),.int .i64 (h:Int)]) (DH encL G B d++(X++[.cells false [.int .i64 (s:Int)]])):=by
 obtain ⟨l,rfl⟩:∃l,b=a+l:=⟨b-a,by omega⟩
 have hw0:IntKind.i64.wrap (((a+l:Nat):Int)-(a:Int))=(l:Int):=wrap_int (by omega) (by omega)
 have hq:(l:Int).tdiv 4=((l / 4:Nat):Int):=tdiv_nat (b:=4)
 have hw1:IntKind.i64.wrap ((l / 4:Nat):Int)=((l / 4:Nat):Int):=wrap_int rfl (by omega)
 have hw2:IntKind.i64.wrap (((l / 4:Nat):Int)*1)=((l / 4:Nat):Int):=wrap_int (by omega) (by omega)
 have hw3:IntKind.i64.wrap (((l / 4:Nat):Int)*2)=((l / 4*2:Nat):Int):=wrap_int (by omega) (by omega)
 have hw4:IntKind.i64.wrap (((l / 4:Nat):Int)*3)=((l / 4*3:Nat):Int):=wrap_int (by omega) (by omega)
 have hw5:IntKind.i64.wrap ((a:Int)+((l / 4:Nat):Int))=((a+l / 4:Nat):Int):=wrap_int (by omega) (by omega)
 have hw6:IntKind.i64.wrap ((a:Int)+((l / 4*2:Nat):Int))=((a+l / 4*2:Nat):Int):=wrap_int (by omega) (by omega)
 have hw7:IntKind.i64.wrap ((a:Int)+((l / 4*3:Nat):Int))=((a+l / 4*3:Nat):Int):=wrap_int (by omega) (by omega)
 have c8:(8:Int)≤(l:Int):=by omega
 have key:∀(x y z s:Nat),a≤x→x<a+l→a≤y→y<a+l→a≤z→z<a+l→s<80→∃v s':Nat,a≤v∧v<a+l∧∀Q,CallR E false lim 79 [.slice p n cap,.int .i64 (x:Int),.int .i64 (y:Int),.int .i64 (z:Int),.pointer (some ⟨G.length+X.length,0,none⟩),.func (.func cl) #[] cs.toArray] (DH encL G B d++(X++[.cells false [.int .i64 (s:Int)]])) Q =
   Q (.int .i64 (v:Int)) (DH encL G B d++(X++[.cells false [.int .i64 (s':Int)]])):=by
  intro x y z s q1 q2 q3 q4 q5 q6 q7
  obtain ⟨v,s',m1,_,m2⟩:=med_ok (X:=X) (cap:=cap) (lim:=lim) (a:=x) (b:=y) (e:=z) hp hB hl hn2 hc hd (by omega) (by omega) (by omega) (show s<90 by omega)
  exact ⟨v,s',by omega,by omega,m2⟩
 have fin:∀(v s':Nat) ,∃h:Nat,h≤2∧((s'=0∧h=1)∨(¬(s':Int)=0∧s'=12∧h=2)∨(¬(s':Int)=0∧¬(s':Int)=12∧h=0)):=by
  intro v s'
  by_cases z:s'=0
  ·exact ⟨1,by omega,.inl ⟨z,rfl⟩⟩
  ·by_cases z2:s'=12
   ·exact ⟨2,by omega,.inr (.inl ⟨by omega,z2,rfl⟩)⟩
   ·exact ⟨0,by omega,.inr (.inr ⟨by omega,by omega,rfl⟩)⟩
 by_cases c50:50≤l
 ·have c50':(50:Int)≤(l:Int):=by omega
  obtain ⟨x1,s1,h1,h2,h3,o1⟩:=meda_ok (X:=X) (cap:=cap) (lim:=lim) (a:=a+l / 4) (s:=0) hp hB hl hn2 hc hd (by omega) (by omega) (by omega)
  obtain ⟨x2,s2,h4,h5,h6,o2⟩:=meda_ok (X:=X) (cap:=cap) (lim:=lim) (a:=a+l / 4*2) (s:=s1) hp hB hl hn2 hc hd (by omega) (by omega) (by omega)
  obtain ⟨x3,s3,h7,h8,h9,o3⟩:=meda_ok (X:=X) (cap:=cap) (lim:=lim) (a:=a+l / 4*3) (s:=s2) hp hB hl hn2 hc hd (by omega) (by omega) (by omega)
  obtain ⟨v,s',m1,m2,om⟩:=key x1 x2 x3 s3 (by omega) (by omega) (by omega) (by omega) (by omega) (by omega) (by omega)
  obtain ⟨h,hh,hc'⟩:=fin v s'
  refine ⟨v,h,s',m1,m2,hh,fun Q=>runs (by decide) e68 rfl ?_⟩
  rw [b68,c68]
  simp only [show ((0:Nat):Int)=0 from rfl] at o1
  rcases hc' with ⟨rfl,rfl⟩ | ⟨z1,rfl,rfl⟩ | ⟨z1,z2,rfl⟩
  ·simp only [n68,r68,hw0,hq,hw1,hw2,hw3,hw4,hw5,hw6,hw7,c8,c50',o1,o2,o3,om,cnt_get,cnt_set,DH_len,SB,Nat.reduceLT,callee,aOp,ne_eq,Nat.reduceEqDiff,aBin,aUn,if_true,if_false,reduceCtorEq,frame0,place,notTuple,Nat.reduceAdd,Nat.reduceLeDiff,resVal,dite_true,dite_false,Int.reduceEq,Int.reduceLT,Int.reduceLE]
  ·simp only [n68,r68,hw0,hq,hw1,hw2,hw3,hw4,hw5,hw6,hw7,c8,c50',o1,o2,o3,om,cnt_get,cnt_set,DH_len,SB,Nat.reduceLT,callee,aOp,ne_eq,Nat.reduceEqDiff,aBin,aUn,if_true,if_false,reduceCtorEq,frame0,place,notTuple,Nat.reduceAdd,Nat.reduceLeDiff,resVal,dite_true,dite_false,Int.reduceEq,Int.reduceLT,Int.reduceLE]
  ·simp only [n68,r68,hw0,hq,hw1,hw2,hw3,hw4,hw5,hw6,hw7,c8,c50',o1,o2,o3,om,z1,z2,cnt_get,cnt_set,DH_len,SB,Nat.reduceLT,callee,aOp,ne_eq,Nat.reduceEqDiff,aBin,aUn,if_true,if_false,reduceCtorEq,frame0,place,notTuple,Nat.reduceAdd,Nat.reduceLeDiff,resVal,dite_true,dite_false,Int.reduceEq,Int.reduceLT,Int.reduceLE]
 ·have c50':¬(50:Int)≤(l:Int):=by omega
  obtain ⟨v,s',m1,m2,om⟩:=key (a+l / 4) (a+l / 4*2) (a+l / 4*3) 0 (by omega) (by omega) (by omega) (by omega) (by omega) (by omega) (by omega)
  obtain ⟨h,hh,hc'⟩:=fin v s'
  refine ⟨v,h,s',m1,m2,hh,fun Q=>runs (by decide) e68 rfl ?_⟩
  rw [b68,c68]
  simp only [show ((0:Nat):Int)=0 from rfl] at om
  rcases hc' with ⟨rfl,rfl⟩ | ⟨z1,rfl,rfl⟩ | ⟨z1,z2,rfl⟩
  ·simp only [n68,r68,hw0,hq,hw1,hw2,hw3,hw4,hw5,hw6,hw7,c8,c50',om,cnt_get,cnt_set,DH_len,SB,Nat.reduceLT,callee,aOp,ne_eq,Nat.reduceEqDiff,aBin,aUn,if_true,if_false,reduceCtorEq,frame0,place,notTuple,Nat.reduceAdd,Nat.reduceLeDiff,resVal,dite_true,dite_false,Int.reduceEq,Int.reduceLT,Int.reduceLE]
  ·simp only [n68,r68,hw0,hq,hw1,hw2,hw3,hw4,hw5,hw6,hw7,c8,c50',om,cnt_get,cnt_set,DH_len,SB,Nat.reduceLT,callee,aOp,ne_eq,Nat.reduceEqDiff,aBin,aUn,if_true,if_false,reduceCtorEq,frame0,place,notTuple,Nat.reduceAdd,Nat.reduceLeDiff,resVal,dite_true,dite_false,Int.reduceEq,Int.reduceLT,Int.reduceLE]
  ·simp only [n68,r68,hw0,hq,hw1,hw2,hw3,hw4,hw5,hw6,hw7,c8,c50',om,z1,z2,cnt_get,cnt_set,DH_len,SB,Nat.reduceLT,callee,aOp,ne_eq,Nat.reduceEqDiff,aBin,aUn,if_true,if_false,reduceCtorEq,frame0,place,notTuple,Nat.reduceAdd,Nat.reduceLeDiff,resVal,dite_true,dite_false,Int.reduceEq,Int.reduceLT,Int.reduceLE]
def len8:List UInt8:=[0,1,2,2,3,3,3,3,4,4,4,4,4,4,4,4,5,5,5,5,5,5,5,5,5,5,5,5,5,5,5,5,6,6,6,6,6,6,6,6,6,6,6,6,6,6,6,6,6,6,6,6,6,6,6,6,6,6,6,6,6,6,6,6,7,7,7,7,7,7,7,7,7,7,7,7,7,7,7,7,7,7,7,7,7,7,7,7,7,7,7,7,7,7,7,7,7,7,7,7,7,7,7,7,7,7,7,7,7,7,7,7,7,7,7,7,7,7,7,7,7,7,7,7,7,7,7,7,8,8,8,8,8,8,8,8,8,8,8,8,8,8,8,8,8,8,8,8,8,8,8,8,8,8,8,8,8,8,8,8,8,8,8,8,8,8,8,8,8,8,8,8,8,8,8,8,8,8,8,8,8,8,8,8,8,8,8,8,8,8,8,8,8,8,8,8,8,8,8,8,8,8,8,8,8,8,8,8,8,8,8,8,8,8,8,8,8,8,8,8,8,8,8,8,8,8,8,8,8,8,8,8,8,8,8,8,8,8,8,8,8,8,8,8,8,8,8,8,8,8,8,8,8,8,8,8]
theorem len8_len:len8.length=256:=by decide
theorem len8_ok:∀m,m<256→m<2 ^ (len8.getD m 0).toNat∧(m=0∨2 ^ (len8.getD m 0).toNat≤2*m)∧(len8.getD m 0).toNat≤8:=by decide +kernel
theorem len8_get {m:Nat} (h:m<256):len8[m]? = some (len8.getD m 0):=by
 rw [List.getD_eq_getElem?_getD,List.getElem?_eq_getElem (by rw [len8_len];exact h)];rfl
theorem wrap64 {n:Int}:IntKind.u64.wrap n=n % 2 ^ 64:=by simp [IntKind.wrap,IntKind.bits,IntKind.signed]
theorem wrap8 {n:Int}:IntKind.u8.wrap n=n % 2 ^ 8:=by simp [IntKind.wrap,IntKind.bits,IntKind.signed]
theorem fd8 {a:Int}:a.fdiv (2 ^ min (Int.toNat 8) IntKind.u64.bits)=a / 256:=by
 rw [show (2:Int) ^ min (Int.toNat 8) IntKind.u64.bits=256 from by decide,Int.fdiv_eq_ediv_of_nonneg _ (by decide)]
theorem len_ok [OB] {x:Nat} (hx:x<65536) (h0:0<x):∃L:Nat,x<2 ^ L∧2 ^ L≤2*x∧L≤16∧∀(mp:Bool) (lim:Nat) (H:Heap) (Q:Value→Heap→Prop),CallR E mp lim 64 [.int .u64 (x:Int)] H Q=Q (.int .i64 (L:Int)) H:=by
 have key:∃L:Nat,x<2 ^ L∧2 ^ L≤2*x∧L≤16∧∀(mp:Bool) (lim:Nat) (H:Heap) (Q:Value→Heap→Prop),CallR E mp lim 74 [.int .u64 (x:Int)] H Q=Q (.int .i64 (L:Int)) H:=by
  have c32:¬(4294967296:Int)≤(x:Int):=by omega
  have c16:¬(65536:Int)≤(x:Int):=by omega
  by_cases c8:256≤x
  ·obtain ⟨h1,h2,h3⟩:=len8_ok (x / 256) (by omega)
   have hg:=len8_get (m:=x / 256) (by omega)
   generalize hb:len8.getD (x / 256) 0=b at h1 h2 h3 hg
   have h2':2 ^ b.toNat≤2*(x / 256):=by rcases h2 with h | h<;>omega
   have e:(2:Nat) ^ (8+b.toNat)=256*2 ^ b.toNat:=by rw [Nat.pow_add]
   refine ⟨8+b.toNat,by rw [e];omega,by rw [e];omega,by omega,fun mp lim H Q=>?_⟩
   refine pc (by decide) e74 rfl rfl ?_
   rw [b74,c74]
   unfold len8 at hg
   have c8':(256:Int)≤(x:Int):=by omega
   have w1:IntKind.u64.wrap ((x:Int) / 256)=((x / 256:Nat):Int):=by rw [wrap64];omega
   have w2:IntKind.u8.wrap ((x:Int) / 256)=((x / 256:Nat):Int):=by rw [wrap8];omega
   have w3:IntKind.i64.wrap ((b.toNat:Nat):Int)=(b.toNat:Int):=wrap_int rfl (by omega)
   have w4:IntKind.i64.wrap (8+(b.toNat:Int))=((8+b.toNat:Nat):Int):=wrap_int (by omega) (by omega)
   have w5:IntKind.i64.wrap 8=8:=by decide
   have w6:(0:Int)≤((x / 256:Nat):Int):=by omega
   simp only [n74,r74,c32,c16,c8',fd8,w1,w2,w3,w4,w5,w6,hg,Int.toNat_natCast,Int.zero_add,SB,Nat.reduceLT,callee,aOp,ne_eq,Nat.reduceEqDiff,aBin,aUn,if_true,if_false,reduceCtorEq,frame0,place,notTuple,Nat.reduceAdd,Nat.reduceLeDiff,resVal,dite_true,dite_false,Int.reduceEq,Int.reduceLT,Int.reduceLE]
  ·obtain ⟨h1,h2,h3⟩:=len8_ok x (by omega)
   have hg:=len8_get (m:=x) (by omega)
   generalize hb:len8.getD x 0=b at h1 h2 h3 hg
   refine ⟨b.toNat,h1,by rcases h2 with h | h<;>omega,by omega,fun mp lim H Q=>?_⟩
   refine pc (by decide) e74 rfl rfl ?_
   rw [b74,c74]
   unfold len8 at hg
   have c8':¬(256:Int)≤(x:Int):=by omega
   have w2:IntKind.u8.wrap (x:Int)=(x:Int):=by rw [wrap8];omega
   have w3:IntKind.i64.wrap ((b.toNat:Nat):Int)=(b.toNat:Int):=wrap_int rfl (by omega)
   have w6:(0:Int)≤(x:Int):=by omega
   simp only [n74,r74,c32,c16,c8',w2,w3,w6,hg,Int.toNat_natCast,Int.zero_add,SB,Nat.reduceLT,callee,aOp,ne_eq,Nat.reduceEqDiff,aBin,aUn,if_true,if_false,reduceCtorEq,frame0,place,notTuple,Nat.reduceAdd,Nat.reduceLeDiff,resVal,dite_true,dite_false,Int.reduceEq,Int.reduceLT,Int.reduceLE]
 obtain ⟨L,h1,h2,h3,h4⟩:=key
 refine ⟨L,h1,h2,h3,fun mp lim H Q=>?_⟩
 refine pc (by decide) e64 rfl rfl ?_
 rw [b64,c64]
 simp only [n64,r64,h4,SB,Nat.reduceLT,callee,aOp,ne_eq,Nat.reduceEqDiff,aBin,aUn,if_true,if_false,reduceCtorEq,frame0,place,notTuple,Nat.reduceAdd,Nat.reduceLeDiff,resVal,dite_true,dite_false,Int.reduceEq,Int.reduceLT,Int.reduceLE]
theorem npt_ok [OB] {x:Nat} (hx:x<65536) (h0:0<x):∃m:Nat,0<m∧m≤2*x∧∀(mp:Bool) (lim:Nat) (H:Heap) (Q:Value→Heap→Prop),CallR E mp lim 76 [.int .i64 (x:Int)] H Q=Q (.int .u64 (m:Int)) H:=by
 obtain ⟨L,h1,h2,h3,h4⟩:=len_ok hx h0
 refine ⟨2 ^ L,Nat.pow_pos (by decide),h2,fun mp lim H Q=>?_⟩
 refine pc (by decide) e76 rfl rfl ?_
 rw [b76,c76]
 have w1:IntKind.u64.wrap (x:Int)=(x:Int):=by rw [wrap64];omega
 have w2:min L IntKind.u64.bits=L:=by simp only [IntKind.bits];omega
 have hp:(2:Nat) ^ L<2 ^ 18:=by omega
 have w3:IntKind.u64.wrap (1*2 ^ L)=((2 ^ L:Nat):Int):=by
  rw [wrap64,Int.one_mul]
  have:((2:Int) ^ L)=((2 ^ L:Nat):Int):=by simp
  rw [this];omega
 have c0:¬(L:Int)<0:=by omega
 simp only [n76,r76,w1,h4,c0,Int.toNat_natCast,w2,w3,SB,Nat.reduceLT,callee,aOp,ne_eq,Nat.reduceEqDiff,aBin,aUn,if_true,if_false,reduceCtorEq,frame0,place,notTuple,Nat.reduceAdd,Nat.reduceLeDiff,resVal,dite_true,dite_false,Int.reduceEq,Int.reduceLT,Int.reduceLE]
theorem xor_ok [OB] {α:Type} {enc:α→List Value} {G X:Heap} {B lim:Nat} {d:Array α} {s:Int} (hl:lim≤B) (hB:B<G.length) :
  ∃s':Int,(0≤s'∧s'<2 ^ 64)∧∀Q,CallR E false lim 77 [.pointer (some ⟨G.length+X.length,0,none⟩)] (DH enc G B d++(X++[.cells false [.int .u64 s]])) Q=Q (.int .u64 s') (DH enc G B d++(X++[.cells false [.int .u64 s']])):=by
 have hlG:lim≤G.length+X.length:=by omega
 have hw:∀m:Int,0≤IntKind.u64.wrap m∧IntKind.u64.wrap m<2 ^ 64:=by intro m;rw [wrap64];omega
 have key:CallR E false lim 77 [.pointer (some ⟨G.length+X.length,0,none⟩)] (DH enc G B d++(X++[.cells false [.int .u64 s]])) fun v H'=>∃s',(0≤s'∧s'<2 ^ 64)∧v=.int .u64 s'∧H'=DH enc G B d++(X++[.cells false [.int .u64 s']]):=by
  rw [CallR_run (E:=E) (g:=77) (af:=a77) (by simp [E,orc]) e77 rfl rfl]
  rw [b77,c77]
  simp only [n77,r77,cnt_get,cnt_set,hlG,List.append_nil,SB,Nat.reduceLT,callee,aOp,ne_eq,Nat.reduceEqDiff,aBin,aUn,if_true,if_false,reduceCtorEq,frame0,place,notTuple,Nat.reduceAdd,Nat.reduceLeDiff,resVal,dite_true,dite_false,Int.reduceEq,Int.reduceLT,Int.reduceLE]
  exact ⟨_,hw _,rfl,rfl⟩
 obtain ⟨k,v,H',hx,s',h1,rfl,rfl⟩:=CallR.one key
 exact ⟨s',h1,fun Q=>CallR.det hx⟩
theorem and_le {a b:Int} (hb:0≤b∧b<2 ^ 64):0≤IntKind.u64.wrap ((BitVec.ofInt IntKind.u64.bits a &&& BitVec.ofInt IntKind.u64.bits b).toNat:Int)∧IntKind.u64.wrap ((BitVec.ofInt IntKind.u64.bits a &&& BitVec.ofInt IntKind.u64.bits b).toNat:Int)≤b:=by
 rw [wrap64]
 have h1:(BitVec.ofInt IntKind.u64.bits a &&& BitVec.ofInt IntKind.u64.bits b).toNat≤(BitVec.ofInt IntKind.u64.bits b).toNat:=by
  rw [BitVec.toNat_and];exact Nat.and_le_right
 have h2:((BitVec.ofInt IntKind.u64.bits b).toNat:Int)=b:=by
  rw [BitVec.toNat_ofInt]
  simp only [IntKind.bits]
  omega
 omega
end Go.Proofs.Ytfedceicnjnefac.Fn

