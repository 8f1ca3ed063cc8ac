/-
  Joined texts, 8 of 9. A part of the claim that the last text states.
-/
import Derived.Test.YtjmmhkodgileiabPB7
namespace Go.Proofs.Ytjmmhkodgileiab.Fn
open Go.AM Go.AM.Sym Go.Net
set_option maxRecDepth 100000
set_option linter.unusedVariables false
set_option linter.unusedSimpArgs false
set_option maxHeartbeats 4000000
theorem chain_none {T:List Tri} {x:Int} (hx:x<0):∀f,chainN T f x=[]
 | 0=>rfl
 | f+1=>by rw [chainN,if_pos hx]
theorem zeros1 (n:Nat):(List.range (n*1)).map (fun j=>[Value.int .i64 0].getD (j % 1) undef)=(List.replicate n (0:Int)).flatMap encI:=by
 have h1:∀j,[Value.int .i64 0].getD (j % 1) undef=Value.int .i64 0:=fun j=>by rw [Nat.mod_one];rfl
 simp only [h1]
 rw [List.map_const',List.length_range,Nat.mul_one]
 induction n with
 | zero=>rfl
 | succ n ih=>
   rw [List.replicate_succ,List.replicate_succ,List.flatMap_cons,←ih]
   rfl
theorem chain_loop [OB] {lim c cc n:Nat} {x0:Int} {T:List Tri} {H G0:Heap} {fr:Nat→Value} {K:List AItem} {Z:Value→Heap→Prop} (h40:n≤40) (hT:T.length=n) (hNx:∀j,j<n→NextOk n j (gt T j)) (hx0:x0<n) (hlim:lim≤H.length) (hC0:Chg [] H G0) (hc:hget G0 c=.cells false ((T.map f3).flatMap encI))
  (g8:fr 8=.slice (some ⟨c,0,none⟩) n cc) (g14:fr 14=.slice none 0 0) (g15:fr 15=.int .i64 x0)
  (hR:∀fr' G q cq,Chg [] G0 G→Own G0.length G encI 1 q cq (chainN T n x0)→fr' 14=.slice q (chainN T n x0).length cq→(∀j,j≤8→fr' j=fr j)→Ret E a20 lim K fr' G Z) :
  Ret E a20 lim (.code (.loop l20_1)::.inBlock 6::K) fr G0 Z:=by
 refine Ret_rounds (fun s:List Int×Nat×Int×Option Addr×Nat=>s.2.1) (fun s fr' G=>s.1++chainN T s.2.1 s.2.2.1=chainN T n x0∧s.1.length+s.2.1=n∧(s.2.2.1<0∨(s.2.2.1<n∧(n:Int)-s.2.2.1≤s.2.1))∧Chg [] G0 G∧Own G0.length G encI 1 s.2.2.2.1 s.2.2.2.2 s.1∧fr' 14=.slice s.2.2.2.1 s.1.length s.2.2.2.2∧fr' 15=.int .i64 s.2.2.1∧(∀j,j≤8→fr' j=fr j)) ([],n,x0,none,0)
  ⟨rfl,by simp,by simp only;omega,Chg.refl,.nil,by rw [g14];rfl,g15,fun _ _=>rfl⟩ ?_
 rintro ⟨l,f,x,pw,cw⟩ fr' G ⟨hch,hlf,hx,hC,hO,h14,h15,hfr⟩ hN
 simp only at hch hlf hx hO h14 h15
 rw [Ret_code l20_1.eq_1]
 have q8:=(hfr 8 (by decide)).trans g8
 have hfr':∀(f:Nat→Value),(∀j,j≤8→f j=fr' j)→∀j,j≤8→f j=fr j:=fun f h j hj=>(h j hj).trans (hfr j hj)
 refine Ret_pad ?_
 by_cases h0:0≤x
 case neg=>
  have e:chainN T f x=[]:=chain_none (by omega) _
  rw [e,List.append_nil] at hch
  subst hch
  simp only [n20,r20,h14,h15,eq_false h0,SB,Nat.reduceLT,callee,aOp,ne_eq,Nat.reduceEqDiff,aBin,aUn,if_true,if_false,reduceCtorEq,frame0,place,notTuple,Nat.reduceAdd,Nat.reduceLeDiff,resVal,dite_true,dite_false,Int.reduceEq,Int.reduceLT,Int.reduceLE]
  exact hR _ _ pw cw hC.app (hO.app _) (by simp only [h14,FB,Nat.reduceEqDiff]) fun j hj=>by
   rw [←hfr j hj]
   simp only [upd]
   repeat rw [if_neg (by omega)]
 obtain ⟨i,rfl⟩:=Int.eq_ofNat_of_zero_le h0
 have hin:i<n:=by omega
 obtain ⟨f',rfl⟩:∃f',f=f'+1:=⟨f-1,by omega⟩
 have hstep:chainN T (f'+1) (i:Int)=(i:Int)::chainN T f' (gt T i).2.2:=by
  rw [chainN,if_neg (by omega),Int.toNat_natCast]
 rw [hstep] at hch
 have hnx:=hNx i hin
 have hcG:=hC.cells hc (by simp)
 have C_i:=Tab.get (i:=i) hcG (by omega)
 have lC:=C_i.1
 have xC:=fun cc (k:IntKind) (H1:Heap)=>C_i.2 n cc k H1 hT.symm
 simp only [f3] at lC
 have hlG:=hC.len
 have hlH:=hC0.len
 obtain ⟨G4,e4,O4,C4,hl4⟩:=Own.moreF hO (lim':=lim) (bytes:=8) (by omega) encI_len (by decide) [(i:Int)] (by simp) (by unfold maxBytes;simp;omega) (by simp;omega) [.cells false [.int .i64 (i:Int)]] (x:=.slice (some ⟨G.length,0,none⟩) 1 1) (str:=false)
  (first_slice (m:=[(i:Int)]) (Sl.row (ro:=false) encI_len (by rw [hget_new0];rfl))) rfl
 have hpw:∀j,j∈opB pw→G0.length≤j:=fun j hj=>by
  cases hpe:pw with
  | none=>rw [hpe] at hj;cases hj
  | some a=>rw [hpe] at hj;have:=hO.block hpe;simp [opB] at hj;omega
 generalize hp':(G++[Blk.cells false [.int .i64 (i:Int)]]).length=r at e4 O4 hl4
 have hr':G.length≤r:=by rw [←hp'];simp
 generalize loose 1=c' at e4 O4
 simp only [List.length_cons,List.length_nil,Nat.zero_add] at e4
 have hC4:Chg [] G0 G4:=hC.trans' C4 fun j hj hjl=>by have:=hpw j hj;omega
 have hcG4:=hC4.cells hc (by simp)
 have lC4:=(Tab.get (i:=i) hcG4 (by omega)).1
 simp only [f3] at lC4
 simp only [n20,r20,q8,h14,h15,eq_true h0,e4,xC,lC4,SB,Nat.reduceLT,callee,aOp,ne_eq,Nat.reduceEqDiff,aBin,aUn,if_true,if_false,reduceCtorEq,frame0,place,notTuple,Nat.reduceAdd,Nat.reduceLeDiff,resVal,dite_true,dite_false,Int.reduceEq,Int.reduceLT,Int.reduceLE]
 exact hN (l++[(i:Int)],f',(gt T i).2.2,some ⟨r,0,none⟩,c') _ _ ⟨by simp only [List.append_assoc,List.singleton_append];exact hch,by simp;omega,by
  simp only
  rcases hnx with e | e
  ·rw [e];omega
  ·omega,hC4.app,(O4.le (by omega)).app _,by simp only [List.length_append,List.length_singleton];rfl,by rfl,hfr' _ fun j hj=>by
  simp only [upd]
  repeat rw [if_neg (by omega)]⟩ (by show f'<f'+1;omega)
theorem rbest_ok [OB] {lim cp cl ce:Nat} {pp pl pe:Option Addr} {P:List Int} {L:List Leg} {es:List Ev} {H:Heap} {Q:Value→Heap→Prop} (hn:NetIn H pp pl P L) (hv:validN P L=0) (hs:Sl H encE 7 pe es) (hsl:es.length≤40) (ht:∀i,i<es.length→0≤(gt es i).time∧(gt es i).time≤maxTime) (hlim:lim≤H.length)
  (hQ:∀G q cq r cr,Chg [] H G→Mine H.length G encI 1 q (bestN P L es)→Mine H.length G enc3 3 r (stepsN P L es (bestN P L es))→Q (.agg #[.slice q (bestN P L es).length cq,.slice r (stepsN P L es (bestN P L es)).length cr,.int .i64 (costN P L es (bestN P L es))]) G) :
  CallR E false lim 20 [.agg (netV pp P.length cp pl L.length cl).toArray,.slice pe es.length ce] H Q:=by
 refine runs' (by decide) e20 rfl ?_
 rw [b20,c20]
 obtain ⟨n,hen⟩:∃n,es.length=n:=⟨_,rfl⟩
 rw [hen]
 have w1:IntKind.i64.wrap ((n:Int)-1)=(n:Int)-1:=wrap_id (by omega) (by omega)
 have hmk:=eq_true (show 0≤(n:Int)∧(n:Int)*8≤2 ^ 45∧(n:Int)<2 ^ 62 by omega)
 simp only [n20,r20,hlim,w1,hmk,zeros1,SB,Nat.reduceLT,callee,aOp,ne_eq,Nat.reduceEqDiff,aBin,aUn,if_true,if_false,reduceCtorEq,frame0,place,notTuple,Nat.reduceAdd,Nat.reduceLeDiff,resVal,dite_true,dite_false,Int.reduceEq,Int.reduceLT,Int.reduceLE]
 generalize hG0:H++[Blk.cells false (netV pp P.length cp pl L.length cl),Blk.cells false [.slice none 0 0,.slice none 0 0,.int .i64 0],Blk.cells false ((List.replicate n (0:Int)).flatMap encI),Blk.cells false ((List.replicate n (0:Int)).flatMap encI),Blk.cells false ((List.replicate n (0:Int)).flatMap encI)]=G0
 have hC0:Chg [] H G0:=by rw [←hG0];exact Chg.refl.app
 have hlG0:G0.length=H.length+5:=by rw [←hG0];simp
 have b2:hget G0 H.length=.cells false (netV pp P.length cp pl L.length cl):=by rw [←hG0,hget_new0];rfl
 have b4:hget G0 (H.length+1)=.cells false [.slice none 0 0,.slice none 0 0,.int .i64 0]:=by rw [←hG0,hget_new];rfl
 have hr:∀f:Tri→Int,f (0,0,0)=0→(tableN P L es 0).map f=List.replicate n (0:Int):=fun f hf=>by rw [tableN,List.map_replicate,hf,hen]
 have hTab0:Tab G0 (H.length+2) (H.length+3) (H.length+4) (tableN P L es 0):=⟨by rw [hr f1 rfl,←hG0,hget_new];rfl,by rw [hr f2 rfl,←hG0,hget_new];rfl,by rw [hr f3 rfl,←hG0,hget_new];rfl⟩
 have hbase:∀G,Chg [H.length+2,H.length+3,H.length+4] G0 G→Chg [] H G:=fun G h=>hC0.trans' h fun j hj hjl=>by simp at hj;omega
 have hnet:∀G,Chg [H.length+2,H.length+3,H.length+4] G0 G→NetIn G pp pl P L∧Sl G encE 7 pe es:=fun G h=>⟨hn.ext (hbase G h).ext,(hbase G h).sl hs (by simp)⟩
 clear hG0
 refine table_loop (A2:=H.length) (a:=H.length+2) (b:=H.length+3) (c:=H.length+4) (ca:=n) (cb:=n) (cc:=n) (cp:=cp) (cl:=cl) (ce:=ce) hv hen (by omega) ht hnet (by omega) b2 (by omega) (by omega) (by omega) (by omega) (by omega) (by omega) (by omega) hTab0 (by simp only [FB,Nat.reduceEqDiff]) (by simp only [FB,Nat.reduceEqDiff]) (by simp only [FB,Nat.reduceEqDiff]) (by simp only [FB,Nat.reduceEqDiff]) (by simp only [FB,Nat.reduceEqDiff]) (by simp only [FB,Nat.reduceEqDiff]) (by simp only [FB,Nat.reduceEqDiff]) fun fr1 G1 hC1 hT1 hfr1=>?_
 have hC1':=hbase G1 hC1
 have g1:fr1 1=.slice pe n ce:=(hfr1 1 (by omega)).trans (by simp only [FB,Nat.reduceEqDiff])
 have g2:fr1 2=.pointer (some ⟨H.length,0,none⟩):=(hfr1 2 (by omega)).trans (by simp only [FB,Nat.reduceEqDiff])
 have g4:fr1 4=.pointer (some ⟨H.length+1,0,none⟩):=(hfr1 4 (by omega)).trans (by simp only [FB,Nat.reduceEqDiff])
 have g5:fr1 5=.int .i64 (n:Int):=(hfr1 5 (by omega)).trans (by simp only [FB,Nat.reduceEqDiff])
 have g6:fr1 6=.slice (some ⟨H.length+2,0,none⟩) n n:=(hfr1 6 (by omega)).trans (by simp only [FB,Nat.reduceEqDiff])
 have g7:fr1 7=.slice (some ⟨H.length+3,0,none⟩) n n:=(hfr1 7 (by omega)).trans (by simp only [FB,Nat.reduceEqDiff])
 have g8:fr1 8=.slice (some ⟨H.length+4,0,none⟩) n n:=(hfr1 8 (by omega)).trans (by simp only [FB,Nat.reduceEqDiff])
 have g9:fr1 9=.int .i64 (-1):=(hfr1 9 (by omega)).trans (by simp only [FB,Nat.reduceEqDiff])
 have b2':=hC1.cells b2 (by simp)
 have b4':=hC1.cells b4 (by simp)
 have hTb:=tableN_bnd (P:=P) (L:=L) (es:=es) n (by omega)
 have hNx:=tableN_next (P:=P) (L:=L) (es:=es) n (by omega)
 rw [hen] at hTb hNx
 have hTl:(tableN P L es n).length=n:=by rw [tableN_len,hen]
 have hbn:bestN P L es=chainN (tableN P L es n) n (topN n (tableN P L es n) n).2.2:=by unfold bestN;rw [hen]
 have htop:=topN_next (n:=n) (T:=tableN P L es n) n (Nat.le_refl _)
 have hmem:=bestN_mem (P:=P) (L:=L) (es:=es)
 have hblen:(bestN P L es).length≤n:=by rw [hbn];exact chainN_len _ _
 rw [hbn] at hQ hmem hblen
 refine Ret_pad ?_
 simp only [n20,r20,g1,g2,g4,g5,g6,g7,g8,g9,w1,SB,Nat.reduceLT,callee,aOp,ne_eq,Nat.reduceEqDiff,aBin,aUn,if_true,if_false,reduceCtorEq,frame0,place,notTuple,Nat.reduceAdd,Nat.reduceLeDiff,resVal,dite_true,dite_false,Int.reduceEq,Int.reduceLT,Int.reduceLE]
 refine top_loop (ca:=n) (cb:=n) (by omega) hTl (fun j hj=>hTb j hj) (hT1.app _) (by simp only [g6,FB,Nat.reduceEqDiff]) (by simp only [g7,FB,Nat.reduceEqDiff]) (by simp only [g9,FB,Nat.reduceEqDiff]) (by simp only [FB,Nat.reduceEqDiff]) fun fr2 G2 hE2 k9 hfr2=>?_
 have e1:fr2 1=.slice pe n ce:=(hfr2 1 (by omega)).trans (by simp only [g1,FB,Nat.reduceEqDiff])
 have e2:fr2 2=.pointer (some ⟨H.length,0,none⟩):=(hfr2 2 (by omega)).trans (by simp only [g2,FB,Nat.reduceEqDiff])
 have e4:fr2 4=.pointer (some ⟨H.length+1,0,none⟩):=(hfr2 4 (by omega)).trans (by simp only [g4,FB,Nat.reduceEqDiff])
 have e8:fr2 8=.slice (some ⟨H.length+4,0,none⟩) n n:=(hfr2 8 (by omega)).trans (by simp only [g8,FB,Nat.reduceEqDiff])
 have hE2':Ext G1 G2:=by
  obtain ⟨Y,rfl⟩:=hE2
  rw [List.append_assoc]
  exact ⟨_,rfl⟩
 have hC2:Chg [] H G2:=hC1'.trans hE2'.chg
 refine Ret_pad ?_
 simp only [n20,r20,e1,e2,e4,e8,k9,SB,Nat.reduceLT,callee,aOp,ne_eq,Nat.reduceEqDiff,aBin,aUn,if_true,if_false,reduceCtorEq,frame0,place,notTuple,Nat.reduceAdd,Nat.reduceLeDiff,resVal,dite_true,dite_false,Int.reduceEq,Int.reduceLT,Int.reduceLE]
 refine chain_loop (cc:=n) (by omega) hTl (fun j hj=>hNx j (by omega) hj) htop.1 hlim hC2.app ((Ext.refl.app).cells (hE2'.cells hT1.c)) (by simp only [e8,FB,Nat.reduceEqDiff]) (by simp only [FB,Nat.reduceEqDiff]) (by simp only [k9,FB,Nat.reduceEqDiff]) fun fr3 G3 q cq hC3 hO3 f14 hfr3=>?_
 have hC3':Chg [] H G3:=hC2.trans hC3.pre
 have e1':fr3 1=.slice pe n ce:=(hfr3 1 (by omega)).trans (by simp only [e1,FB,Nat.reduceEqDiff])
 have e2':fr3 2=.pointer (some ⟨H.length,0,none⟩):=(hfr3 2 (by omega)).trans (by simp only [e2,FB,Nat.reduceEqDiff])
 have e4':fr3 4=.pointer (some ⟨H.length+1,0,none⟩):=(hfr3 4 (by omega)).trans (by simp only [e4,FB,Nat.reduceEqDiff])
 have b2X:=fun X=>(Ext.refl.app (X:=X)).cells (hC3.pre.cells (hE2'.cells b2') (by simp))
 have hlG2:=hC2.len
 have hlG3:=hC3'.len
 have b4G:=hC3.pre.cells (hE2'.cells b4') (by simp)
 generalize hks:chainN (tableN P L es n) n (topN n (tableN P L es n) n).2.2=ks at *
 refine Ret_pad ?_
 simp only [n20,r20,e1',e2',e4',f14,b2X,netV_len,netV_0,netV_1,take_all,SB,Nat.reduceLT,callee,aOp,ne_eq,Nat.reduceEqDiff,aBin,aUn,if_true,if_false,reduceCtorEq,frame0,place,notTuple,Nat.reduceAdd,Nat.reduceLeDiff,resVal,dite_true,dite_false,Int.reduceEq,Int.reduceLT,Int.reduceLE]
 rw [←hen]
 refine rcost_ok (ks:=ks) (hn.ext hC3'.ext |>.app _) hv ((hC3'.sl hs (by simp)).app _) hsl ht ((hO3.sl encI_len).app _) (by omega) hmem (by simp;omega) fun G4 r cr hC4 hr4=>?_
 have b4H:=hC4.cells ((Ext.refl.app).cells b4G) (by simp)
 obtain ⟨G5,e5,h5,m5⟩:=mut_set (hget_alive b4H) (.cells false [.slice q ks.length cq,.slice r (stepsN P L es ks).length cr,.int .i64 (costN P L es ks)])
 have b4X:=fun X=>(Ext.refl.app (X:=X)).cells b4H
 have h5X:=fun X=>(Ext.refl.app (X:=X)).cells h5
 refine Ret_pad ?_
 simp only [n20,r20,e1',e2',e4',f14,b4X,hlim,e5,h5X,SB,Nat.reduceLT,callee,aOp,ne_eq,Nat.reduceEqDiff,aBin,aUn,if_true,if_false,reduceCtorEq,frame0,place,notTuple,Nat.reduceAdd,Nat.reduceLeDiff,resVal,dite_true,dite_false,Int.reduceEq,Int.reduceLT,Int.reduceLE]
 have hl5:H.length+5≤G2.length:=by have:=hE2'.len;have:=hC1.len;omega
 have hl6:=hC3.pre.len
 have hC45:Chg [] H G4:=hC3'.trans hC4.pre
 have hC5:Chg [] H G5:=hC45.mut m5 (.inr (by omega))
 have hq1:∀a,q=some a→G2.length≤a.block:=fun a ha=>by have:=(hO3.block ha).1;simpa using this
 have sq:Sl G4 encI 1 q ks:=hC4.pre.sl (hO3.sl encI_len) (by simp)
 refine hQ _ _ _ _ _ hC5.app ?_ ?_
 ·exact (Mine.app ⟨m5.sl sq fun a ha _ e=>by have:=hq1 a ha;omega,fun a ha=>by have:=hq1 a ha;omega⟩ _)
 ·refine Mine.app ⟨m5.sl hr4.1 fun a ha _ e=>?_,fun a ha=>?_⟩ _
  ·have:=hr4.2 a ha;simp at this;omega
  ·have:=hr4.2 a ha;simp at this;omega
theorem append_room1 {α:Type} {lim R e bytes cap k b:Nat} {dest:Option Nat} {H:Heap} {enc:α→List Value} {old:List α} {x:α} {ro:Bool} {rest:List Value} (he:∀x,(enc x).length=e) (he0:e≠0) (hx:hget H b=.cells ro (enc x)) (hR:hget H R=.cells false (old.flatMap enc++rest)) (hl:lim≤R)
  (hc:old.length+1≤cap) (hr:rest.length=(cap-old.length)*e) (hcap:cap<2 ^ 61) (hb:(old.length+1)*bytes≤maxBytes) :
  aAppend lim dest e bytes false (.slice (some ⟨R,0,none⟩) old.length cap) (.slice (some ⟨b,0,none⟩) 1 k) H=some (.slice (some ⟨R,0,none⟩) (old.length+1) cap,H.set R (.cells false ((old++[x]).flatMap enc++rest.drop e))):=by
 have hRl:=hget_alive hR
 have hx':AM.loadCells H ⟨b,0,none⟩ (1*e)=some (enc x):=by
  rw [loadCells_lit,hx]
  simp only [Nat.zero_add,List.drop_zero,Nat.one_mul]
  rw [if_pos (by rw [he];exact Nat.le_refl _),←he x,List.take_length]
 have hle:e≤rest.length:=by rw [hr];exact Nat.le_mul_of_pos_left e (by omega)
 have hy:AM.loadCells H ⟨R,0,none⟩ (old.length*e)=some (old.flatMap enc):=by
  rw [loadCells_lit,hR]
  simp only [Nat.zero_add,List.drop_zero]
  rw [if_pos (by rw [List.length_append,flat_len he];omega),←flat_len he,List.take_left]
 have hst:AM.storeAt lim H (Addr.add ⟨R,0,none⟩ (old.length*e)) (enc x)=some (H.set R (.cells false ((old++[x]).flatMap enc++rest.drop e))):=by
  simp only [addr_add,storeAt_lit,hR,Nat.zero_add]
  rw [if_pos ⟨hl,by rw [List.length_append,flat_len he,he];omega⟩]
  have:=setAll_mid (enc x) (old.flatMap enc) (rest.take e) (rest.drop e) (by rw [he,List.length_take];omega)
  rw [List.append_assoc,List.take_append_drop,flat_len he] at this
  rw [this,List.flatMap_append,List.flatMap_cons,List.flatMap_nil,List.append_nil]
 simp only [aAppend,firstCells,lenOf,hx',hy,hst,if_false,Bool.false_eq_true,Nat.one_ne_zero]
 rw [if_neg (by omega),if_neg (by unfold loose;omega),if_pos (by omega),if_pos (by omega)]
theorem eqL_self (x:Leg):aEq (.agg [.int .i64,.int .i64,.int .i64,.int .i64,.int .i64,.int .i64,.int .i64,.int .u8]) (.agg (encL x).toArray) (.agg (encL x).toArray)=some true:=by
 rw [samelegs_eqv,decide_eq_true rfl]
def markI (i:Nat):Int:=8000024+(i:Int)
def marksI:List Int:=(List.range 12).map markI
theorem marksI_len:marksI.length=12:=by simp [marksI]
theorem marksI_gt {i:Nat} (h:i<12):gt marksI i=markI i:=by
 rw [gt_lt (by rw [marksI_len];exact h)];simp [marksI]
def markL (i:Nat):Leg:=⟨8000024+(i:Int),0,0,0,0,0,0,0⟩
def marksL:List Leg:=(List.range 12).map markL
theorem marksL_len:marksL.length=12:=by simp [marksL]
theorem marksL_gt {i:Nat} (h:i<12):gt marksL i=markL i:=by
 rw [gt_lt (by rw [marksL_len];exact h)];simp [marksL]
theorem markK_ok [OB] {mp:Bool} {lim i:Nat} {k:Int} {H:Heap} {Q:Value→Heap→Prop} (hk:0≤k∧k≤10) (hi:i<10000000) :
  CallR E mp lim 34 [.int .i64 k,.int .i64 (i:Int)] H Q=Q (.int .i64 (1000003*(k+7)+(i:Int))) H:=by
 have w1:IntKind.i64.wrap (k+7)=k+7:=wrap_id (by omega) (by omega)
 have w2:IntKind.i64.wrap (1000003*(k+7))=1000003*(k+7):=wrap_id (by omega) (by omega)
 have w3:IntKind.i64.wrap (1000003*(k+7)+(i:Int))=1000003*(k+7)+(i:Int):=wrap_id (by omega) (by omega)
 refine pc (by decide) e34 rfl rfl ?_
 rw [b34,c34]
 simp only [n34,r34,w1,w2,w3,SB,Nat.reduceLT,callee,aOp,ne_eq,Nat.reduceEqDiff,aBin,aUn,if_true,if_false,reduceCtorEq,frame0,place,notTuple,Nat.reduceAdd,Nat.reduceLeDiff,resVal,dite_true,dite_false,Int.reduceEq,Int.reduceLT,Int.reduceLE]
theorem markI_ok [OB] {mp:Bool} {lim:Nat} {i:Nat} {H:Heap} {Q:Value→Heap→Prop} (hi:i<1000) :
  CallR E mp lim 34 [.int .i64 1,.int .i64 (i:Int)] H Q=Q (.int .i64 (8000024+(i:Int))) H:=by
 rw [markK_ok ⟨by decide,by decide⟩ (by omega)];rfl
theorem markL_ok [OB] {mp:Bool} {lim:Nat} {i:Nat} {H:Heap} {Q:Value→Heap→Prop} (hi:i<1000) :
  CallR E mp lim 56 [.int .i64 1,.int .i64 (i:Int)] H Q=Q (.agg (encL (markL i)).toArray) H:=by
 have hm:=fun (mp:Bool) (lim:Nat) (H:Heap) (Q:Value→Heap→Prop)=>markI_ok (mp:=mp) (lim:=lim) (H:=H) (Q:=Q) hi
 refine pc (by decide) e56 rfl rfl ?_
 rw [b56,c56]
 simp only [n56,r56,hm,SB,Nat.reduceLT,callee,aOp,ne_eq,Nat.reduceEqDiff,aBin,aUn,if_true,if_false,reduceCtorEq,frame0,place,notTuple,Nat.reduceAdd,Nat.reduceLeDiff,resVal,dite_true,dite_false,Int.reduceEq,Int.reduceLT,Int.reduceLE]
 rfl
theorem cut_room {e R n k c:Nat} (hc:n≤c) (h2:c<2 ^ 62) (h:k≤c):sliceV e (.slice (some ⟨R,0,none⟩) n c) none (some (.int .i64 (k:Int))) none=some (.slice (some ⟨R,0,none⟩) k c):=by
 have hb:bounds unV n c none (some (.const (.int .i64 (k:Int)))) none=some (0,k,c):=by
  have:=bv_010 (len:=n) (cap:=c) (k1:=.i64) (h:=(k:Int)) (by omega) (by omega)
  rw [Int.toNat_natCast] at this
  exact this
 unfold sliceV aSliceS
 simp only [Option.map_some,Option.map_none]
 rw [if_neg (by unfold loose;omega),if_pos h2,hb]
 simp only [addr_add,Nat.zero_mul,Nat.add_zero,Nat.sub_zero,Option.map_some,ite_self]
theorem lentI_ok [OB] {lim c:Nat} {p:Option Addr} {S:List Int} {H:Heap} {Q:Value→Heap→Prop} (hs:Sl H encI 1 p S) (hn:S.length≤2010) (hl:lim≤H.length)
  (hQ:∀G,hget G H.length=.cells false ((S++marksI).flatMap encI)→Chg [] H G→Q (.slice (some ⟨H.length,0,none⟩) S.length (S.length+12)) (G++[])) :
  CallR E false lim 9 [.slice p S.length c] H Q:=by
 refine runs' (by decide) e9 rfl ?_
 rw [b9,c9]
 have w12:IntKind.i64.wrap ((S.length:Int)+12)=((S.length+12:Nat):Int):=by rw [wrap_id (by omega) (by omega)];omega
 have hb1:((S.length+12:Nat):Int)*8≤2 ^ 45:=by omega
 have hb2:((S.length+12:Nat):Int)<2 ^ 62:=by omega
 have hnn:(0:Int)≤((S.length+12:Nat):Int):=by omega
 have row0:∀z:List Value,z.length=(S.length+12)*1→∃G1 z',z'.length=12*1∧hget G1 H.length=.cells false (S.flatMap encI++z')∧Chg [] H G1∧
   aAppend lim none 1 8 false (.slice (some ⟨H.length,0,none⟩) 0 (S.length+12)) (.slice p S.length c) (H++[.cells false z])=some (.slice (some ⟨H.length,0,none⟩) S.length (S.length+12),G1++[]):=fun z hz=>by
  have:=append_roomN (lim:=lim) (R:=H.length) (bytes:=8) (cap:=S.length+12) (k:=c) (enc:=encI) (old:=[]) (l:=S) (rest:=z) encI_len (by decide) (hs.app [.cells false z]) (by rw [hget_new0];rfl) hl (by simp) (by rw [hz];simp) (by omega) (by unfold maxBytes;simp;omega)
  rw [List.length_nil,Nat.zero_add,List.nil_append] at this
  refine ⟨_,z.drop (S.length*1),by rw [List.length_drop,hz];omega, ?_, ?_,by rw [List.append_nil];exact this⟩
  ·exact hget_set_eq (by simp)
  ·exact Chg.refl.app.set (.inr (Nat.le_refl _))
 simp only [n9,r9,w12,hb1,hb2,hnn,Int.toNat_natCast,Int.toNat_zero,SB,Nat.reduceLT,callee,aOp,ne_eq,Nat.reduceEqDiff,aBin,aUn,if_true,if_false,reduceCtorEq,frame0,place,notTuple,Nat.reduceAdd,Nat.reduceLeDiff,resVal,dite_true,dite_false,Int.reduceEq,Int.reduceLT,Int.reduceLE]
 obtain ⟨G1,z,hz,hG1,hC1,e1⟩:=row0 ((List.range ((S.length+12)*1)).map fun j=>[Value.int .i64 0].getD (j % 1) undef) (by rw [List.length_map,List.length_range])
 simp only [n9,r9,e1,SB,Nat.reduceLT,callee,aOp,ne_eq,Nat.reduceEqDiff,aBin,aUn,if_true,if_false,reduceCtorEq,frame0,place,notTuple,Nat.reduceAdd,Nat.reduceLeDiff,resVal,dite_true,dite_false,Int.reduceEq,Int.reduceLT,Int.reduceLE]
 refine Ret_rounds (fun i=>12-i) (fun i fr G=>i≤12∧fr 0=.slice p S.length c∧fr 3=.slice (some ⟨H.length,0,none⟩) (S.length+i) (S.length+12)∧fr 4=.int .i64 (i:Int)∧(∃z,z.length=(12-i)*1∧hget G H.length=.cells false ((S++marksI.take i).flatMap encI++z))∧Chg [] H G) 0
  ⟨Nat.zero_le _,(by simp only [FB,Nat.reduceEqDiff]),(by simp only [Nat.add_zero,FB,Nat.reduceEqDiff]),by rfl,⟨z,hz,by rw [List.take_zero,List.append_nil,List.append_nil];exact hG1⟩,hC1.app⟩ ?_
 rintro i fr G ⟨hi,g0,g3,g4,⟨z,hz,hG⟩,hC⟩ hN
 rw [Ret_code l9_1.eq_1]
 refine Ret_pad ?_
 have hCl:=hC.len
 have hlG:=hget_alive hG
 by_cases hlt:i<12
 ·have c0:(i:Int)<12:=by omega
  have hw1:IntKind.i64.wrap ((i:Int)+1)=((i+1:Nat):Int):=wrap_nat (by omega)
  have hmk:=fun (mp:Bool) (lim:Nat) (H:Heap) (Q:Value→Heap→Prop)=>markI_ok (mp:=mp) (lim:=lim) (H:=H) (Q:=Q) (by omega:i<1000)
  have lO:(S++marksI.take i).length=S.length+i:=by rw [List.length_append,List.length_take,marksI_len];omega
  obtain ⟨G3,e3,h3,m3⟩:=mut_set (G:=G) (R:=H.length) hlG (.cells false ((((S++marksI.take i)++[markI i]).flatMap encI)++z.drop 1))
  have happ:=append_room1 (lim:=lim) (R:=H.length) (bytes:=8) (cap:=S.length+12) (k:=1) (b:=G.length) (dest:=none) (H:=G++[.cells false (encI (markI i))]) (enc:=encI) (old:=S++marksI.take i) (x:=markI i) (ro:=false) (rest:=z) encI_len (by decide)
   (by rw [hget_new0];rfl) (by rw [hget_old hlG];exact hG) hl (by rw [lO];omega) (by rw [lO,hz];congr 1;omega) (by omega) (by rw [lO];unfold maxBytes;omega)
  rw [lO,e3] at happ
  simp only [encI,markI] at happ
  simp only [n9,r9,g0,g3,g4,eq_true c0,hmk,encI_len,hw1,happ,SB,Nat.reduceLT,callee,aOp,ne_eq,Nat.reduceEqDiff,aBin,aUn,if_true,if_false,reduceCtorEq,frame0,place,notTuple,Nat.reduceAdd,Nat.reduceLeDiff,resVal,dite_true,dite_false,Int.reduceEq,Int.reduceLT,Int.reduceLE]
  refine hN (i+1) _ _ ⟨by omega,(by simp only [g0,FB,Nat.reduceEqDiff]),(by simp only [Nat.add_assoc,FB,Nat.reduceEqDiff]),(by simp only [FB,Nat.reduceEqDiff]),⟨z.drop 1,by rw [List.length_drop,hz];omega, ?_⟩,(hC.mut m3 (.inr (Nat.le_refl _))).app⟩ (by omega)
  rw [hget_old (by rw [m3.len];exact hlG),h3,List.append_assoc S,←marksI_gt hlt,gt_lt (by rw [marksI_len];exact hlt),←List.take_succ_eq_append_getElem]
 ·obtain rfl:i=12:=by omega
  have hz0:z=[]:=List.length_eq_zero_iff.mp hz
  rw [hz0,List.append_nil,List.take_of_length_le (by rw [marksI_len];exact Nat.le_refl _)] at hG
  have hcut:=cut_room (e:=1) (R:=H.length) (n:=S.length+12) (k:=S.length) (c:=S.length+12) (Nat.le_refl _) (by omega) (by omega)
  simp only [n9,r9,g0,g3,g4,hcut,SB,Nat.reduceLT,callee,aOp,ne_eq,Nat.reduceEqDiff,aBin,aUn,if_true,if_false,reduceCtorEq,frame0,place,notTuple,Nat.reduceAdd,Nat.reduceLeDiff,resVal,dite_true,dite_false,Int.reduceEq,Int.reduceLT,Int.reduceLE]
  exact hQ G hG hC
theorem keptI_ok [OB] {mp:Bool} {lim c R:Nat} {p:Option Addr} {S:List Int} {H:Heap} {Q:Value→Heap→Prop} (hs:Sl H encI 1 p S) (hn:S.length≤2010) (hR:hget H R=.cells false ((S++marksI).flatMap encI)) :
  CallR E mp lim 17 [.slice (some ⟨R,0,none⟩) S.length (S.length+12),.slice p S.length c] H Q=Q (.bool true) H:=by
 refine pc (by decide) e17 rfl rfl ?_
 rw [b17,c17]
 have w12:IntKind.i64.wrap ((S.length:Int)+12)=((S.length+12:Nat):Int):=by rw [wrap_id (by omega) (by omega)];omega
 have hcut:=cut_room (e:=1) (R:=R) (n:=S.length) (k:=S.length+12) (c:=S.length+12) (by omega) (by omega) (Nat.le_refl _)
 simp only [n17,r17,w12,hcut,SB,Nat.reduceLT,callee,aOp,ne_eq,Nat.reduceEqDiff,aBin,aUn,if_true,if_false,reduceCtorEq,frame0,place,notTuple,Nat.reduceAdd,Nat.reduceLeDiff,resVal,dite_true,dite_false,Int.reduceEq,Int.reduceLT,Int.reduceLE]
 have lA:(S++marksI).length=S.length+12:=by rw [List.length_append,marksI_len]
 have hA:Sl H encI 1 (some ⟨R,0,none⟩) (S++marksI):=Sl.row encI_len hR
 refine Ret_rounds (fun i=>S.length+12-i) (fun i fr G=>i≤S.length+12∧fr 1=.slice p S.length c∧fr 5=.slice (some ⟨R,0,none⟩) (S.length+12) (S.length+12)∧fr 6=.int .i64 (i:Int)∧G=H) 0
  ⟨Nat.zero_le _,(by simp only [FB,Nat.reduceEqDiff]),(by simp only [FB,Nat.reduceEqDiff]),by rfl,by simp⟩ ?_
 rintro i fr G ⟨hi,g1,g5,g6,rfl⟩ hN
 rw [Ret_code l17_1.eq_1]
 refine Ret_pad ?_
 by_cases hlt:i<S.length+12
 case neg=>
  simp only [n17,r17,g1,g5,g6,int_lt_cast,hlt,SB,Nat.reduceLT,callee,aOp,ne_eq,Nat.reduceEqDiff,aBin,aUn,if_true,if_false,reduceCtorEq,frame0,place,notTuple,Nat.reduceAdd,Nat.reduceLeDiff,resVal,dite_true,dite_false,Int.reduceEq,Int.reduceLT,Int.reduceLE]
 have hw1:IntKind.i64.wrap ((i:Int)+1)=((i+1:Nat):Int):=wrap_nat (by omega)
 have ldA:=ld_ints (i:=i) hA (by omega)
 have ixA:=fun c (k:IntKind) (H1:Heap)=>hA.idx (c:=c) (k:=k) (H1:=H1) (by omega:i<(S++marksI).length)
 rw [lA] at ixA
 by_cases hlS:i<S.length
 ·have ldS:=ld_ints (i:=i) hs hlS
  have ixS:=fun c (k:IntKind) (H1:Heap)=>hs.idx (c:=c) (k:=k) (H1:=H1) hlS
  rw [gt_append_left hlS] at ldA
  have c2:¬S.length≤i:=by omega
  simp only [n17,r17,g1,g5,g6,int_lt_cast,hlt,hlS,ldA,ixA,ldS,ixS,eq_self,decide_true,Bool.not_true,hw1,ge_iff_le,int_le_cast,c2,SB,Nat.reduceLT,callee,aOp,ne_eq,Nat.reduceEqDiff,aBin,aUn,if_true,if_false,reduceCtorEq,frame0,place,notTuple,Nat.reduceAdd,Nat.reduceLeDiff,resVal,dite_true,dite_false,Int.reduceEq,Int.reduceLT,Int.reduceLE]
  exact hN (i+1) _ _ ⟨by omega,(by simp only [g1,FB,Nat.reduceEqDiff]),(by simp only [g5,FB,Nat.reduceEqDiff]),(by simp only [FB,Nat.reduceEqDiff]),by simp⟩ (by omega)
 ·have hsub:IntKind.i64.wrap ((i:Int)-(S.length:Int))=((i-S.length:Nat):Int):=by rw [wrap_id (by omega) (by omega)];omega
  have hmk:=fun (mp:Bool) (lim:Nat) (H:Heap) (Q:Value→Heap→Prop)=>markI_ok (mp:=mp) (lim:=lim) (H:=H) (Q:=Q) (by omega:i-S.length<1000)
  have hgA:gt (S++marksI) i=markI (i-S.length):=by
   have:=gt_append_len (l:=S) (r:=marksI) (i:=i-S.length)
   rw [show S.length+(i-S.length)=i by omega,marksI_gt (by omega)] at this
   exact this
  rw [hgA] at ldA
  simp only [markI] at ldA
  have c2:S.length≤i:=by omega
  simp only [n17,r17,g1,g5,g6,int_lt_cast,hlt,hlS,ldA,ixA,hsub,hmk,eq_self,decide_true,Bool.not_true,hw1,ge_iff_le,int_le_cast,c2,SB,Nat.reduceLT,callee,aOp,ne_eq,Nat.reduceEqDiff,aBin,aUn,if_true,if_false,reduceCtorEq,frame0,place,notTuple,Nat.reduceAdd,Nat.reduceLeDiff,resVal,dite_true,dite_false,Int.reduceEq,Int.reduceLT,Int.reduceLE]
  exact hN (i+1) _ _ ⟨by omega,(by simp only [g1,FB,Nat.reduceEqDiff]),(by simp only [g5,FB,Nat.reduceEqDiff]),(by simp only [FB,Nat.reduceEqDiff]),by simp⟩ (by omega)
theorem lentL_ok [OB] {lim c:Nat} {p:Option Addr} {S:List Leg} {H:Heap} {Q:Value→Heap→Prop} (hs:Sl H encL 8 p S) (hn:S.length≤2010) (hl:lim≤H.length)
  (hQ:∀G,hget G H.length=.cells false ((S++marksL).flatMap encL)→Chg [] H G→Q (.slice (some ⟨H.length,0,none⟩) S.length (S.length+12)) (G++[])) :
  CallR E false lim 33 [.slice p S.length c] H Q:=by
 refine runs' (by decide) e33 rfl ?_
 rw [b33,c33]
 have w12:IntKind.i64.wrap ((S.length:Int)+12)=((S.length+12:Nat):Int):=by rw [wrap_id (by omega) (by omega)];omega
 have hb1:((S.length+12:Nat):Int)*64≤2 ^ 45:=by omega
 have hb2:((S.length+12:Nat):Int)<2 ^ 62:=by omega
 have hnn:(0:Int)≤((S.length+12:Nat):Int):=by omega
 have row0:∀z:List Value,z.length=(S.length+12)*8→∃G1 z',z'.length=12*8∧hget G1 H.length=.cells false (S.flatMap encL++z')∧Chg [] H G1∧
   aAppend lim none 8 64 false (.slice (some ⟨H.length,0,none⟩) 0 (S.length+12)) (.slice p S.length c) (H++[.cells false z])=some (.slice (some ⟨H.length,0,none⟩) S.length (S.length+12),G1++[]):=fun z hz=>by
  have:=append_roomN (lim:=lim) (R:=H.length) (bytes:=64) (cap:=S.length+12) (k:=c) (enc:=encL) (old:=[]) (l:=S) (rest:=z) encL_len (by decide) (hs.app [.cells false z]) (by rw [hget_new0];rfl) hl (by simp) (by rw [hz];simp) (by omega) (by unfold maxBytes;simp;omega)
  rw [List.length_nil,Nat.zero_add,List.nil_append] at this
  refine ⟨_,z.drop (S.length*8),by rw [List.length_drop,hz];omega, ?_, ?_,by rw [List.append_nil];exact this⟩
  ·exact hget_set_eq (by simp)
  ·exact Chg.refl.app.set (.inr (Nat.le_refl _))
 simp only [n33,r33,w12,hb1,hb2,hnn,Int.toNat_natCast,Int.toNat_zero,SB,Nat.reduceLT,callee,aOp,ne_eq,Nat.reduceEqDiff,aBin,aUn,if_true,if_false,reduceCtorEq,frame0,place,notTuple,Nat.reduceAdd,Nat.reduceLeDiff,resVal,dite_true,dite_false,Int.reduceEq,Int.reduceLT,Int.reduceLE]
 generalize hzz:List.map _ (List.range ((S.length+12)*8))=zz
 have hzl:zz.length=(S.length+12)*8:=by rw [←hzz,List.length_map,List.length_range]
 clear hzz
 have hrow:=row0 zz hzl
 refine hrow.elim fun G1 hrow=>hrow.elim fun z hrow=>?_
 have hz:=hrow.1
 have hG1:=hrow.2.1
 have hC1:=hrow.2.2.1
 have e1:=hrow.2.2.2
 simp only [n33,r33,e1,SB,Nat.reduceLT,callee,aOp,ne_eq,Nat.reduceEqDiff,aBin,aUn,if_true,if_false,reduceCtorEq,frame0,place,notTuple,Nat.reduceAdd,Nat.reduceLeDiff,resVal,dite_true,dite_false,Int.reduceEq,Int.reduceLT,Int.reduceLE]
 refine Ret_rounds (fun i=>12-i) (fun i fr G=>i≤12∧fr 0=.slice p S.length c∧fr 3=.slice (some ⟨H.length,0,none⟩) (S.length+i) (S.length+12)∧fr 4=.int .i64 (i:Int)∧(∃z,z.length=(12-i)*8∧hget G H.length=.cells false ((S++marksL.take i).flatMap encL++z))∧Chg [] H G) 0
  ⟨Nat.zero_le _,(by simp only [FB,Nat.reduceEqDiff]),(by simp only [Nat.add_zero,FB,Nat.reduceEqDiff]),by rfl,⟨z,hz,by rw [List.take_zero,List.append_nil,List.append_nil];exact hG1⟩,hC1.app⟩ ?_
 rintro i fr G ⟨hi,g0,g3,g4,⟨z,hz,hG⟩,hC⟩ hN
 rw [Ret_code l33_1.eq_1]
 refine Ret_pad ?_
 have hCl:=hC.len
 have hlG:=hget_alive hG
 by_cases hlt:i<12
 ·have c0:(i:Int)<12:=by omega
  have hw1:IntKind.i64.wrap ((i:Int)+1)=((i+1:Nat):Int):=wrap_nat (by omega)
  have hmk:=fun (mp:Bool) (lim:Nat) (H:Heap) (Q:Value→Heap→Prop)=>markL_ok (mp:=mp) (lim:=lim) (H:=H) (Q:=Q) (by omega:i<1000)
  have lO:(S++marksL.take i).length=S.length+i:=by rw [List.length_append,List.length_take,marksL_len];omega
  obtain ⟨G3,e3,h3,m3⟩:=mut_set (G:=G) (R:=H.length) hlG (.cells false ((((S++marksL.take i)++[markL i]).flatMap encL)++z.drop 8))
  have happ:=append_room1 (lim:=lim) (R:=H.length) (bytes:=64) (cap:=S.length+12) (k:=1) (b:=G.length) (dest:=none) (H:=G++[.cells false (encL (markL i))]) (enc:=encL) (old:=S++marksL.take i) (x:=markL i) (ro:=false) (rest:=z) encL_len (by decide)
   (by rw [hget_new0];rfl) (by rw [hget_old hlG];exact hG) hl (by rw [lO];omega) (by rw [lO,hz];congr 1;omega) (by omega) (by rw [lO];unfold maxBytes;omega)
  rw [lO,e3] at happ
  simp only [n33,r33,g0,g3,g4,eq_true c0,hmk,encL_len,hw1,happ,SB,Nat.reduceLT,callee,aOp,ne_eq,Nat.reduceEqDiff,aBin,aUn,if_true,if_false,reduceCtorEq,frame0,place,notTuple,Nat.reduceAdd,Nat.reduceLeDiff,resVal,dite_true,dite_false,Int.reduceEq,Int.reduceLT,Int.reduceLE]
  refine hN (i+1) _ _ ⟨by omega,(by simp only [g0,FB,Nat.reduceEqDiff]),(by simp only [Nat.add_assoc,FB,Nat.reduceEqDiff]),(by simp only [FB,Nat.reduceEqDiff]),⟨z.drop 8,by rw [List.length_drop,hz];omega, ?_⟩,(hC.mut m3 (.inr (Nat.le_refl _))).app⟩ (by omega)
  rw [hget_old (by rw [m3.len];exact hlG),h3,List.append_assoc S,←marksL_gt hlt,gt_lt (by rw [marksL_len];exact hlt),←List.take_succ_eq_append_getElem]
 ·obtain rfl:i=12:=by omega
  have hz0:z=[]:=List.length_eq_zero_iff.mp hz
  rw [hz0,List.append_nil,List.take_of_length_le (by rw [marksL_len];exact Nat.le_refl _)] at hG
  have hcut:=cut_room (e:=8) (R:=H.length) (n:=S.length+12) (k:=S.length) (c:=S.length+12) (Nat.le_refl _) (by omega) (by omega)
  simp only [n33,r33,g0,g3,g4,hcut,SB,Nat.reduceLT,callee,aOp,ne_eq,Nat.reduceEqDiff,aBin,aUn,if_true,if_false,reduceCtorEq,frame0,place,notTuple,Nat.reduceAdd,Nat.reduceLeDiff,resVal,dite_true,dite_false,Int.reduceEq,Int.reduceLT,Int.reduceLE]
  exact hQ G hG hC
theorem keptL_ok [OB] {mp:Bool} {lim c R:Nat} {p:Option Addr} {S:List Leg} {H:Heap} {Q:Value→Heap→Prop} (hs:Sl H encL 8 p S) (hn:S.length≤2010) (hR:hget H R=.cells false ((S++marksL).flatMap encL)) :
  CallR E mp lim 45 [.slice (some ⟨R,0,none⟩) S.length (S.length+12),.slice p S.length c] H Q=Q (.bool true) H:=by
 refine pc (by decide) e45 rfl rfl ?_
 rw [b45,c45]
 have w12:IntKind.i64.wrap ((S.length:Int)+12)=((S.length+12:Nat):Int):=by rw [wrap_id (by omega) (by omega)];omega
 have hcut:=cut_room (e:=8) (R:=R) (n:=S.length) (k:=S.length+12) (c:=S.length+12) (by omega) (by omega) (Nat.le_refl _)
 simp only [n45,r45,w12,hcut,SB,Nat.reduceLT,callee,aOp,ne_eq,Nat.reduceEqDiff,aBin,aUn,if_true,if_false,reduceCtorEq,frame0,place,notTuple,Nat.reduceAdd,Nat.reduceLeDiff,resVal,dite_true,dite_false,Int.reduceEq,Int.reduceLT,Int.reduceLE]
 have lA:(S++marksL).length=S.length+12:=by rw [List.length_append,marksL_len]
 have hA:Sl H encL 8 (some ⟨R,0,none⟩) (S++marksL):=Sl.row encL_len hR
 refine Ret_rounds (fun i=>S.length+12-i) (fun i fr G=>i≤S.length+12∧fr 1=.slice p S.length c∧fr 5=.slice (some ⟨R,0,none⟩) (S.length+12) (S.length+12)∧fr 6=.int .i64 (i:Int)∧G=H) 0
  ⟨Nat.zero_le _,(by simp only [FB,Nat.reduceEqDiff]),(by simp only [FB,Nat.reduceEqDiff]),by rfl,by simp⟩ ?_
 rintro i fr G ⟨hi,g1,g5,g6,rfl⟩ hN
 rw [Ret_code l45_1.eq_1]
 refine Ret_pad ?_
 by_cases hlt:i<S.length+12
 case neg=>
  simp only [n45,r45,g1,g5,g6,int_lt_cast,hlt,SB,Nat.reduceLT,callee,aOp,ne_eq,Nat.reduceEqDiff,aBin,aUn,if_true,if_false,reduceCtorEq,frame0,place,notTuple,Nat.reduceAdd,Nat.reduceLeDiff,resVal,dite_true,dite_false,Int.reduceEq,Int.reduceLT,Int.reduceLE]
 have hw1:IntKind.i64.wrap ((i:Int)+1)=((i+1:Nat):Int):=wrap_nat (by omega)
 have ldA:=fun X=>(hA.app X).loadCells encL_len (by omega:i<(S++marksL).length)
 have ixA:=fun c (k:IntKind) (H1:Heap)=>hA.idx (c:=c) (k:=k) (H1:=H1) (by omega:i<(S++marksL).length)
 rw [lA] at ixA
 by_cases hlS:i<S.length
 ·have ldS:=fun X=>(hs.app X).loadCells encL_len hlS
  have ixS:=fun c (k:IntKind) (H1:Heap)=>hs.idx (c:=c) (k:=k) (H1:=H1) hlS
  rw [gt_append_left hlS] at ldA
  have c2:¬S.length≤i:=by omega
  simp only [n45,r45,g1,g5,g6,int_lt_cast,hlt,hlS,ldA,ixA,ldS,ixS,eqL_self,encL_len,take_all,hw1,ge_iff_le,int_le_cast,c2,SB,Nat.reduceLT,callee,aOp,ne_eq,Nat.reduceEqDiff,aBin,aUn,if_true,if_false,reduceCtorEq,frame0,place,notTuple,Nat.reduceAdd,Nat.reduceLeDiff,resVal,dite_true,dite_false,Int.reduceEq,Int.reduceLT,Int.reduceLE]
  exact hN (i+1) _ _ ⟨by omega,(by simp only [g1,FB,Nat.reduceEqDiff]),(by simp only [g5,FB,Nat.reduceEqDiff]),(by simp only [FB,Nat.reduceEqDiff]),by simp⟩ (by omega)
 ·have hsub:IntKind.i64.wrap ((i:Int)-(S.length:Int))=((i-S.length:Nat):Int):=by rw [wrap_id (by omega) (by omega)];omega
  have hmk:=fun (mp:Bool) (lim:Nat) (H:Heap) (Q:Value→Heap→Prop)=>markL_ok (mp:=mp) (lim:=lim) (H:=H) (Q:=Q) (by omega:i-S.length<1000)
  have hgA:gt (S++marksL) i=markL (i-S.length):=by
   have:=gt_append_len (l:=S) (r:=marksL) (i:=i-S.length)
   rw [show S.length+(i-S.length)=i by omega,marksL_gt (by omega)] at this
   exact this
  rw [hgA] at ldA
  have c2:S.length≤i:=by omega
  simp only [n45,r45,g1,g5,g6,int_lt_cast,hlt,hlS,ldA,ixA,hsub,hmk,eqL_self,encL_len,take_all,hw1,ge_iff_le,int_le_cast,c2,SB,Nat.reduceLT,callee,aOp,ne_eq,Nat.reduceEqDiff,aBin,aUn,if_true,if_false,reduceCtorEq,frame0,place,notTuple,Nat.reduceAdd,Nat.reduceLeDiff,resVal,dite_true,dite_false,Int.reduceEq,Int.reduceLT,Int.reduceLE]
  exact hN (i+1) _ _ ⟨by omega,(by simp only [g1,FB,Nat.reduceEqDiff]),(by simp only [g5,FB,Nat.reduceEqDiff]),(by simp only [FB,Nat.reduceEqDiff]),by simp⟩ (by omega)
theorem samelegs_ok [OB] {mp:Bool} {lim c c':Nat} {p p':Option Addr} {L:List Leg} {H:Heap} {Q:Value→Heap→Prop} (hs:Sl H encL 8 p L) (hs':Sl H encL 8 p' L) (hn:L.length<2 ^ 62) :
  CallR E mp lim 67 [.slice p L.length c,.slice p' L.length c'] H Q=Q (.bool true) H:=by
 refine pc (by decide) e67 rfl rfl ?_
 rw [b67,c67]
 simp only [n67,r67,SB,Nat.reduceLT,callee,aOp,ne_eq,Nat.reduceEqDiff,aBin,aUn,if_true,if_false,reduceCtorEq,frame0,place,notTuple,Nat.reduceAdd,Nat.reduceLeDiff,resVal,dite_true,dite_false,Int.reduceEq,Int.reduceLT,Int.reduceLE]
 refine Ret_rounds (fun i=>L.length-i) (fun i fr G=>i≤L.length∧fr 0=.slice p L.length c∧fr 1=.slice p' L.length c'∧fr 5=.int .i64 (i:Int)∧G=H) 0
  ⟨Nat.zero_le _,(by simp only [FB,Nat.reduceEqDiff]),(by simp only [FB,Nat.reduceEqDiff]),by rfl,by simp⟩ ?_
 rintro i fr G ⟨hi,g0,g1,g5,rfl⟩ hN
 rw [Ret_code l67_1.eq_1]
 refine Ret_pad ?_
 by_cases hlt:i<L.length
 ·have hld:=fun X=>(hs.app X).loadCells encL_len hlt
  have hld':=fun X=>(hs'.app X).loadCells encL_len hlt
  have hidx:=fun c (k:IntKind) (H1:Heap)=>hs.idx (c:=c) (k:=k) (H1:=H1) hlt
  have hidx':=fun c (k:IntKind) (H1:Heap)=>hs'.idx (c:=c) (k:=k) (H1:=H1) hlt
  have hw1:IntKind.i64.wrap ((i:Int)+1)=((i+1:Nat):Int):=wrap_nat (by omega)
  simp only [n67,r67,g0,g1,g5,int_lt_cast,hlt,hidx,hidx',hld,hld',encL_len,take_all,eqL_self,Bool.not_true,hw1,SB,Nat.reduceLT,callee,aOp,ne_eq,Nat.reduceEqDiff,aBin,aUn,if_true,if_false,reduceCtorEq,frame0,place,notTuple,Nat.reduceAdd,Nat.reduceLeDiff,resVal,dite_true,dite_false,Int.reduceEq,Int.reduceLT,Int.reduceLE]
  exact hN (i+1) _ _ ⟨by omega,(by simp only [g0,FB,Nat.reduceEqDiff]),(by simp only [g1,FB,Nat.reduceEqDiff]),(by simp only [FB,Nat.reduceEqDiff]),by simp⟩ (by omega)
 ·obtain rfl:i=L.length:=by omega
  simp only [n67,r67,g0,g1,g5,int_lt_cast,hlt,SB,Nat.reduceLT,callee,aOp,ne_eq,Nat.reduceEqDiff,aBin,aUn,if_true,if_false,reduceCtorEq,frame0,place,notTuple,Nat.reduceAdd,Nat.reduceLeDiff,resVal,dite_true,dite_false,Int.reduceEq,Int.reduceLT,Int.reduceLE]
theorem samenet_ok [OB] {mp:Bool} {lim c1 c2 d1 d2:Nat} {pp pl qp ql:Option Addr} {P:List Int} {L:List Leg} {H:Heap} {Q:Value→Heap→Prop} (h1:NetIn H pp pl P L) (h2:NetIn H qp ql P L) (hP:P.length<2 ^ 62) (hL:L.length<2 ^ 62) :
  CallR E mp lim 44 [.agg (netV pp P.length c1 pl L.length c2).toArray,.agg (netV qp P.length d1 ql L.length d2).toArray] H Q=Q (.bool true) H:=by
 refine pc (by decide) e44 rfl rfl ?_
 rw [b44,c44]
 have ha:=fun X (mp:Bool) (lim:Nat) (Q:Value→Heap→Prop)=>sameints_ok (mp:=mp) (lim:=lim) (ca:=c1) (cb:=d1) (Q:=Q) (h1.sp.app X) (h2.sp.app X) hP
 simp only [decide_true] at ha
 have hb:=fun X (mp:Bool) (lim:Nat) (Q:Value→Heap→Prop)=>samelegs_ok (mp:=mp) (lim:=lim) (c:=c2) (c':=d2) (Q:=Q) (h1.sl.app X) (h2.sl.app X) hL
 simp only [n44,r44,netV_len,netV_0,netV_1,ha,hb,SB,Nat.reduceLT,callee,aOp,ne_eq,Nat.reduceEqDiff,aBin,aUn,if_true,if_false,reduceCtorEq,frame0,place,notTuple,Nat.reduceAdd,Nat.reduceLeDiff,resVal,dite_true,dite_false,Int.reduceEq,Int.reduceLT,Int.reduceLE]
structure LentN (G:Heap) (b1 b2:Nat) (P:List Int) (L:List Leg):Prop where
 i:hget G b1=.cells false ((P++marksI).flatMap encI)
 l:hget G b2=.cells false ((L++marksL).flatMap encL)
theorem LentN.net {G:Heap} {b1 b2:Nat} {P:List Int} {L:List Leg} {pp pl:Option Addr} {H:Heap} (h:LentN G b1 b2 P L) (hn:NetIn H pp pl P L):NetIn G (some ⟨b1,0,none⟩) (some ⟨b2,0,none⟩) P L:=
 ⟨(Sl.row encI_len h.i).pre encI_len,(Sl.row encL_len h.l).pre encL_len,hn.np,hn.nl,hn.bys⟩
theorem keptnet_ok [OB] {mp:Bool} {lim d1 d2 b1 b2:Nat} {qp ql:Option Addr} {P:List Int} {L:List Leg} {H:Heap} {Q:Value→Heap→Prop} (h1:LentN H b1 b2 P L) (h2:NetIn H qp ql P L) (hP:P.length≤60) (hL:L.length≤60) :
  CallR E mp lim 16 [.agg (netV (some ⟨b1,0,none⟩) P.length (P.length+12) (some ⟨b2,0,none⟩) L.length (L.length+12)).toArray,.agg (netV qp P.length d1 ql L.length d2).toArray] H Q=Q (.bool true) H:=by
 refine pc (by decide) e16 rfl rfl ?_
 rw [b16,c16]
 have hs:=fun X (mp:Bool) (lim:Nat) (Q:Value→Heap→Prop)=>samenet_ok (mp:=mp) (lim:=lim) (c1:=P.length+12) (c2:=L.length+12) (d1:=d1) (d2:=d2) (Q:=Q) ((h1.net h2).app X) (h2.app X) (by omega) (by omega)
 have ha:=fun X (mp:Bool) (lim:Nat) (Q:Value→Heap→Prop)=>keptI_ok (mp:=mp) (lim:=lim) (c:=d1) (R:=b1) (Q:=Q) (h2.sp.app X) (by omega) ((Ext.refl.app (X:=X)).cells h1.i)
 have hb:=fun X (mp:Bool) (lim:Nat) (Q:Value→Heap→Prop)=>keptL_ok (mp:=mp) (lim:=lim) (c:=d2) (R:=b2) (Q:=Q) (h2.sl.app X) (by omega) ((Ext.refl.app (X:=X)).cells h1.l)
 simp only [n16,r16,netV_len,netV_0,netV_1,take_all,hs,ha,hb,SB,Nat.reduceLT,callee,aOp,ne_eq,Nat.reduceEqDiff,aBin,aUn,if_true,if_false,reduceCtorEq,frame0,place,notTuple,Nat.reduceAdd,Nat.reduceLeDiff,resVal,dite_true,dite_false,Int.reduceEq,Int.reduceLT,Int.reduceLE]
theorem lentnet_ok [OB] {lim c1 c2:Nat} {pp pl:Option Addr} {P:List Int} {L:List Leg} {H:Heap} {Q:Value→Heap→Prop} (hn:NetIn H pp pl P L) (hP:P.length≤60) (hL:L.length≤60) (hlim:lim≤H.length)
  (hQ:∀G b1 b2,Chg [] H G→LentN G b1 b2 P L→H.length≤b1→H.length≤b2→Q (.agg (netV (some ⟨b1,0,none⟩) P.length (P.length+12) (some ⟨b2,0,none⟩) L.length (L.length+12)).toArray) G) :
  CallR E false lim 8 [.agg (netV pp P.length c1 pl L.length c2).toArray] H Q:=by
 refine runs' (by decide) e8 rfl ?_
 rw [b8,c8]
 simp only [n8,r8,netV_len,netV_0,netV_1,SB,Nat.reduceLT,callee,aOp,ne_eq,Nat.reduceEqDiff,aBin,aUn,if_true,if_false,reduceCtorEq,frame0,place,notTuple,Nat.reduceAdd,Nat.reduceLeDiff,resVal,dite_true,dite_false,Int.reduceEq,Int.reduceLT,Int.reduceLE]
 refine lentI_ok (hn.sp.app _) (by omega) (by simp;omega) fun G1 h1 hC1=>?_
 have hC1':Chg [] H G1:=hC1.pre
 have k1:hget G1 H.length=.cells false (netV pp P.length c1 pl L.length c2):=hC1.cells (by rw [hget_new0];rfl) (by simp)
 have k2:hget G1 (H.length+1)=.cells false [.slice none 0 0,.slice none 0 0]:=hC1.cells (by rw [hget_new];rfl) (by simp)
 obtain ⟨G2,e2,h2,m2⟩:=mut_set (hget_alive k1) (.cells false (netV (some ⟨H.length+2,0,none⟩) P.length (P.length+12) pl L.length c2))
 have k1X:=fun X=>(Ext.refl.app (X:=X)).cells k1
 have h2X:=fun X=>(Ext.refl.app (X:=X)).cells h2
 have es:∀v,(netV pp P.length c1 pl L.length c2).set 0 v=[v,.slice pl L.length c2]:=fun v=>rfl
 have e2':∀X,(G1++X).set H.length (.cells false [.slice (some ⟨H.length+2,0,none⟩) P.length (P.length+12),.slice pl L.length c2])=G2++X:=e2
 refine Ret_pad ?_
 simp only [n8,r8,netV_len,netV_0,netV_1,k1X,es,e2',h2X,hlim,SB,Nat.reduceLT,callee,aOp,ne_eq,Nat.reduceEqDiff,aBin,aUn,if_true,if_false,reduceCtorEq,frame0,place,notTuple,Nat.reduceAdd,Nat.reduceLeDiff,resVal,dite_true,dite_false,Int.reduceEq,Int.reduceLT,Int.reduceLE]
 have hl1:=hC1.len
 have hl2:=m2.len
 simp at hl1
 have hi1:hget G1 (H.length+2)=.cells false ((P++marksI).flatMap encI):=by simpa using h1
 have hi2:hget G2 (H.length+2)=.cells false ((P++marksI).flatMap encI):=m2.cells hi1 (by omega)
 have hC2:Chg [] H G2:=hC1'.mut m2 (.inr (by omega))
 refine lentL_ok ((hC2.sl hn.sl (by simp)).app _) (by omega) (by simp;omega) fun G3 h3 hC3=>?_
 have hC3':=hC3.pre
 have hC3H:Chg [] H G3:=hC2.trans hC3'
 have hl3:=hC3'.len
 have j1:=hC3'.cells h2 (by simp)
 have j2:=hC3'.cells (m2.cells k2 (by omega)) (by simp)
 have hi3:=hC3'.cells hi2 (by simp)
 rw [List.append_nil] at h3
 obtain ⟨G4,e4,h4,m4⟩:=mut_set (hget_alive j1) (.cells false (netV (some ⟨H.length+2,0,none⟩) P.length (P.length+12) (some ⟨G2.length,0,none⟩) L.length (L.length+12)))
 have j24:=m4.cells j2 (by omega)
 obtain ⟨G5,e5,h5,m5⟩:=mut_set (hget_alive j24) (.cells false (netV (some ⟨H.length+2,0,none⟩) P.length (P.length+12) (some ⟨G2.length,0,none⟩) L.length (L.length+12)))
 have j1X:=fun X=>(Ext.refl.app (X:=X)).cells j1
 have h4X:=fun X=>(Ext.refl.app (X:=X)).cells h4
 have j24X:=fun X=>(Ext.refl.app (X:=X)).cells j24
 have h5X:=fun X=>(Ext.refl.app (X:=X)).cells h5
 have es4:∀v,(netV (some ⟨H.length+2,0,none⟩) P.length (P.length+12) pl L.length c2).set 1 v=[.slice (some ⟨H.length+2,0,none⟩) P.length (P.length+12),v]:=fun v=>rfl
 have e4':∀X,(G3++X).set H.length (.cells false [.slice (some ⟨H.length+2,0,none⟩) P.length (P.length+12),.slice (some ⟨G2.length,0,none⟩) L.length (L.length+12)])=G4++X:=e4
 refine Ret_pad ?_
 simp only [n8,r8,netV_len,netV_0,netV_1,take_all,j1X,es4,e4',h4X,j24X,hlim,e5,h5X,SB,Nat.reduceLT,callee,aOp,ne_eq,Nat.reduceEqDiff,aBin,aUn,if_true,if_false,reduceCtorEq,frame0,place,notTuple,Nat.reduceAdd,Nat.reduceLeDiff,resVal,dite_true,dite_false,Int.reduceEq,Int.reduceLT,Int.reduceLE]
 have hC5:Chg [] H G5:=(hC3H.mut m4 (.inr (by omega))).mut m5 (.inr (by omega))
 exact hQ _ _ _ hC5.app ⟨(Ext.refl.app).cells (m5.cells (m4.cells hi3 (by omega)) (by omega)),(Ext.refl.app).cells (m5.cells (m4.cells h3 (by omega)) (by omega))⟩ (by omega) (by omega)
theorem over_ok [OB] {lim R:Nat} {S:List Int} {H:Heap} {Q:Value→Heap→Prop} (hR:hget H R=.cells false ((S++marksI).flatMap encI)) (hn:S.length≤60) (hl:lim≤R)
  (hQ:∀G,Chg [R] H G→Q (.tuple #[]) G) :
  CallR E false lim 18 [.slice (some ⟨R,0,none⟩) S.length (S.length+12)] H Q:=by
 refine runs' (by decide) e18 rfl ?_
 rw [b18,c18]
 have w12:IntKind.i64.wrap ((S.length:Int)+12)=((S.length+12:Nat):Int):=by rw [wrap_id (by omega) (by omega)];omega
 have hcut:=cut_room (e:=1) (R:=R) (n:=S.length) (k:=S.length+12) (c:=S.length+12) (by omega) (by omega) (Nat.le_refl _)
 have hmin:min ((S.length+12:Nat):Int) ((S.length+12:Nat):Int)=((S.length+12:Nat):Int):=by omega
 have hcp:=eq_true (show S.length+12<2 ^ 62 by omega)
 simp only [n18,r18,w12,min_v,hmin,hcut,hcp,SB,Nat.reduceLT,callee,aOp,ne_eq,Nat.reduceEqDiff,aBin,aUn,if_true,if_false,reduceCtorEq,frame0,place,notTuple,Nat.reduceAdd,Nat.reduceLeDiff,resVal,dite_true,dite_false,Int.reduceEq,Int.reduceLT,Int.reduceLE]
 have lA:(S++marksI).length=S.length+12:=by rw [List.length_append,marksI_len]
 refine Ret_rounds (fun i=>S.length+12-i) (fun i fr G=>i≤S.length+12∧fr 2=.slice (some ⟨R,0,none⟩) (S.length+12) (S.length+12)∧fr 3=.int .i64 (i:Int)∧Chg [R] H G∧∃T:List Int,T.length=S.length+12∧hget G R=.cells false (T.flatMap encI)) 0
  ⟨Nat.zero_le _,(by simp only [FB,Nat.reduceEqDiff]),by rfl,Chg.refl.app,_,lA,(Ext.refl.app).cells hR⟩ ?_
 rintro i fr G ⟨hi,g2,g3,hC,T,hT,hG⟩ hN
 rw [Ret_code l18_1.eq_1]
 refine Ret_pad ?_
 by_cases hlt:i<S.length+12
 case neg=>
  simp only [n18,r18,g2,g3,int_lt_cast,hlt,SB,Nat.reduceLT,callee,aOp,ne_eq,Nat.reduceEqDiff,aBin,aUn,if_true,if_false,reduceCtorEq,frame0,place,notTuple,Nat.reduceAdd,Nat.reduceLeDiff,resVal,dite_true,dite_false,Int.reduceEq,Int.reduceLT,Int.reduceLE]
  exact hQ _ hC.app
 have hw1:IntKind.i64.wrap ((i:Int)+1)=((i+1:Nat):Int):=wrap_nat (by omega)
 have hmk:=fun (mp:Bool) (lim:Nat) (H:Heap) (Q:Value→Heap→Prop)=>markK_ok (mp:=mp) (lim:=lim) (H:=H) (Q:=Q) (k:=2) (i:=i) (by omega) (by omega)
 have xT:=ix_ints (i:=i) (n:=S.length+12) (Sl.row encI_len hG:Sl G encI 1 (some ⟨R,0,none⟩) T) hlt hT
 obtain ⟨G2,e2,k2,m2⟩:=store_mut (lim:=lim) (p:=some ⟨R,0,none⟩) (i:=i) encI_len rfl hG hl (by omega) (1000003*(2+7)+(i:Int))
 simp only [encI] at e2
 generalize 1000003*(2+7)+(i:Int)=mk at hmk e2 k2
 simp only [n18,r18,g2,g3,int_lt_cast,hlt,hw1,hmk,xT,e2,SB,Nat.reduceLT,callee,aOp,ne_eq,Nat.reduceEqDiff,aBin,aUn,if_true,if_false,reduceCtorEq,frame0,place,notTuple,Nat.reduceAdd,Nat.reduceLeDiff,resVal,dite_true,dite_false,Int.reduceEq,Int.reduceLT,Int.reduceLE]
 exact hN (i+1) _ _ ⟨by omega,(by simp only [g2,FB,Nat.reduceEqDiff]),(by simp only [FB,Nat.reduceEqDiff]),(hC.mut m2 (.inl (by simp))).app,_,by rw [List.length_set];exact hT,(Ext.refl.app).cells k2⟩ (by omega)
def fewP (p l n:Nat):Prop:=p≤60∧l≤20∧(n≤12∨(40<n∧n≤45))
instance (p l n:Nat):Decidable (fewP p l n):=by unfold fewP;infer_instance
theorem few_ok [OB] {mp:Bool} {lim cp cl ce n:Nat} {pp pl pe:Option Addr} {P:List Int} {L:List Leg} {H:Heap} {Q:Value→Heap→Prop} :
  CallR E mp lim 6 [.agg (netV pp P.length cp pl L.length cl).toArray,.slice pe n ce] H Q=Q (.bool (decide (fewP P.length L.length n))) H:=by
 refine pc (by decide) e6 rfl rfl ?_
 rw [b6,c6]
 obtain ⟨y,hy⟩:∃y:Bool,decide (fewP P.length L.length n)=y:=⟨_,rfl⟩
 rw [hy]
 have no:¬fewP P.length L.length n→y=false:=fun h=>by rw [←hy];exact decide_eq_false h
 have yes:fewP P.length L.length n→y=true:=fun h=>by rw [←hy];exact decide_eq_true h
 unfold fewP at no yes
 by_cases h1:(P.length:Int)≤60
 case neg=>simp only [n6,r6,netV_len,netV_0,netV_1,eq_false h1,no (fun h=>by omega),SB,Nat.reduceLT,callee,aOp,ne_eq,Nat.reduceEqDiff,aBin,aUn,if_true,if_false,reduceCtorEq,frame0,place,notTuple,Nat.reduceAdd,Nat.reduceLeDiff,resVal,dite_true,dite_false,Int.reduceEq,Int.reduceLT,Int.reduceLE]
 by_cases h2:(L.length:Int)≤20
 case neg=>simp only [n6,r6,netV_len,netV_0,netV_1,eq_true h1,eq_false h2,no (fun h=>by omega),SB,Nat.reduceLT,callee,aOp,ne_eq,Nat.reduceEqDiff,aBin,aUn,if_true,if_false,reduceCtorEq,frame0,place,notTuple,Nat.reduceAdd,Nat.reduceLeDiff,resVal,dite_true,dite_false,Int.reduceEq,Int.reduceLT,Int.reduceLE]
 by_cases h3:(n:Int)≤12
 ·simp only [n6,r6,netV_len,netV_0,netV_1,eq_true h1,eq_true h2,eq_true h3,yes (by omega),SB,Nat.reduceLT,callee,aOp,ne_eq,Nat.reduceEqDiff,aBin,aUn,if_true,if_false,reduceCtorEq,frame0,place,notTuple,Nat.reduceAdd,Nat.reduceLeDiff,resVal,dite_true,dite_false,Int.reduceEq,Int.reduceLT,Int.reduceLE]
 by_cases h4:(40:Int)<(n:Int)
 case neg=>simp only [n6,r6,netV_len,netV_0,netV_1,eq_true h1,eq_true h2,eq_false h3,eq_false h4,no (fun h=>by omega),SB,Nat.reduceLT,callee,aOp,ne_eq,Nat.reduceEqDiff,aBin,aUn,if_true,if_false,reduceCtorEq,frame0,place,notTuple,Nat.reduceAdd,Nat.reduceLeDiff,resVal,dite_true,dite_false,Int.reduceEq,Int.reduceLT,Int.reduceLE]
 by_cases h5:(n:Int)≤45
 ·simp only [n6,r6,netV_len,netV_0,netV_1,eq_true h1,eq_true h2,eq_false h3,eq_true h4,eq_true h5,yes (by omega),SB,Nat.reduceLT,callee,aOp,ne_eq,Nat.reduceEqDiff,aBin,aUn,if_true,if_false,reduceCtorEq,frame0,place,notTuple,Nat.reduceAdd,Nat.reduceLeDiff,resVal,dite_true,dite_false,Int.reduceEq,Int.reduceLT,Int.reduceLE]
 ·simp only [n6,r6,netV_len,netV_0,netV_1,eq_true h1,eq_true h2,eq_false h3,eq_true h4,eq_false h5,no (fun h=>by omega),SB,Nat.reduceLT,callee,aOp,ne_eq,Nat.reduceEqDiff,aBin,aUn,if_true,if_false,reduceCtorEq,frame0,place,notTuple,Nat.reduceAdd,Nat.reduceLeDiff,resVal,dite_true,dite_false,Int.reduceEq,Int.reduceLT,Int.reduceLE]
theorem clone_ev {lim ce:Nat} {pe:Option Addr} {es:List Ev} {G:Heap} (hs:Sl G encE 7 pe es) (hl:es.length≤45) :
  ∃b cq X,aAppend lim none 7 56 false (.slice (some ⟨G.length,0,none⟩) 0 0) (.slice pe es.length ce) (G++[.cells false []])=some (.slice (some ⟨b,0,none⟩) es.length cq,G++(.cells false []::X))∧Sl (G++(.cells false []::X)) encE 7 (some ⟨b,0,none⟩) es∧G.length≤b:=by
 by_cases h:es=[]
 ·subst h
  refine ⟨G.length,0,[], ?_,Sl.row encE_len (ro:=false) (by rw [hget_new0];rfl),Nat.le_refl _⟩
  exact append_new0 (by decide)
 ·refine ⟨G.length+1,loose 7,[.cells false (es.flatMap encE)], ?_,Sl.row encE_len (ro:=false) (by rw [hget_new];rfl),by omega⟩
  have:=append_newN (lim:=lim) (b:=G.length) (e:=7) (bytes:=56) (c:=ce) (enc:=encE) (H:=G++[.cells false []]) (by rw [hget_new0];rfl) (hs.app _) (by decide) (by unfold maxBytes;omega) (by omega) h
  simpa using this
theorem best_any [OB] {lim:Nat} {pp pl pe:Option Addr} {P:List Int} {L:List Leg} {cp cl ce:Nat} {es:List Ev} {H:Heap} {Q:Value→Heap→Prop} (hn:NetIn H pp pl P L) (hlim:lim≤H.length) (hs:Sl H encE 7 pe es) (hsl:es.length<2 ^ 62)
  (hQ:∀G q cq r cr B S x,Chg [] H G→Mine H.length G encI 1 q B→Mine H.length G enc3 3 r S→B.length≤60→S.length≤60→(errI P L es=0→B=bestN P L es∧S=stepsN P L es (bestN P L es)∧x=costN P L es (bestN P L es))→(errI P L es≠0→B=[]∧S=[]∧x=0)→Q (.tuple #[.agg #[.slice q B.length cq,.slice r S.length cr,.int .i64 x],.int .i64 (errI P L es)]) G) :
  CallR E false lim 10 [.agg (netV pp P.length cp pl L.length cl).toArray,.slice pe es.length ce] H Q:=by
 refine Best_ok hn hlim hs hsl (fun G h hC=>?_) fun G q cq r cr h hC hq hr=>?_
 ·exact hQ G none 0 none 0 [] [] 0 hC ⟨rfl,fun a ha=>by cases ha⟩ ⟨rfl,fun a ha=>by cases ha⟩ (by simp) (by simp) (fun h'=>absurd h' h) fun _=>⟨rfl,rfl,rfl⟩
 ·have h40:=(errI_0 h).2.1
  have hb:(bestN P L es).length≤es.length:=by unfold bestN;exact chainN_len _ _
  have:=hQ G q cq r cr _ _ _ hC hq hr (by omega) (by simp [stepsN];omega) (fun _=>⟨rfl,rfl,rfl⟩) fun h'=>absurd h h'
  rw [h] at this
  exact this
theorem cost_any [OB] {lim:Nat} {pp pl pe pk:Option Addr} {P:List Int} {L:List Leg} {cp cl ce ck:Nat} {es:List Ev} {ks:List Int} {H:Heap} {Q:Value→Heap→Prop} (hn:NetIn H pp pl P L) (hlim:lim≤H.length) (hs:Sl H encE 7 pe es) (hsl:es.length<2 ^ 62) (hk:Sl H encI 1 pk ks) (hkl:ks.length≤60) (hck:pk=none→ck=0)
  (hQ:∀G q cq r cr B S x,Chg [] H G→Mine H.length G encI 1 q B→Mine H.length G enc3 3 r S→B.length≤60→S.length≤60→(errC P L es ks=0→B=ks∧S=stepsN P L es ks∧x=costN P L es ks)→(errC P L es ks≠0→B=[]∧S=[]∧x=0)→Q (.tuple #[.agg #[.slice q B.length cq,.slice r S.length cr,.int .i64 x],.int .i64 (errC P L es ks)]) G) :
  CallR E false lim 11 [.agg (netV pp P.length cp pl L.length cl).toArray,.slice pe es.length ce,.slice pk ks.length ck] H Q:=by
 refine Cost_ok hn hlim hs hsl hk (by omega) hck (fun G h hC=>?_) fun G q cq r cr h hC hq hr=>?_
 ·exact hQ G none 0 none 0 [] [] 0 hC ⟨rfl,fun a ha=>by cases ha⟩ ⟨rfl,fun a ha=>by cases ha⟩ (by simp) (by simp) (fun h'=>absurd h' h) fun _=>⟨rfl,rfl,rfl⟩
 ·have:=hQ G q cq r cr _ _ _ hC hq hr (by omega) (by simp [stepsN];omega) (fun _=>⟨rfl,rfl,rfl⟩) fun h'=>absurd h h'
  rw [h] at this
  exact this
def BR3:ACode:=hdC (tlC (tlC (tlC (tlC (tlC (tlC (tlC c3)))))))
def FIN3:ACode:=tlC (tlC (tlC (tlC (tlC (tlC (tlC (tlC c3)))))))
theorem c3_cut:c3=(.seq (hdC c3) (.seq (hdC (tlC c3)) (.seq (hdC (tlC (tlC c3))) (.seq (hdC (tlC (tlC (tlC c3)))) (.seq (hdC (tlC (tlC (tlC (tlC c3))))) (.seq (hdC (tlC (tlC (tlC (tlC (tlC c3)))))) (.seq (hdC (tlC (tlC (tlC (tlC (tlC (tlC c3))))))) (.seq BR3 FIN3)))))))):=rfl
structure TS (H G:Heap) (A7 A10 A12 Rk b1 b2 be:Nat) (pp pl pe pk:Option Addr) (cp cl:Nat) (P:List Int) (L:List Leg) (es:List Ev) (ks:List Int) (q r q' r':Option Addr) (cq cr cq' cr':Nat) (B:List Int) (S:List (Int×Int×Int)) (x:Int) (B':List Int) (S':List (Int×Int×Int)) (x':Int):Prop where
 n0:NetIn H pp pl P L
 s0:Sl H encE 7 pe es
 sk0:Sl H encI 1 pk ks
 chg:Chg [] H G
 k3:hget G H.length=.cells false (netV pp P.length cp pl L.length cl)
 k7:hget G A7=.cells false (netV (some ⟨b1,0,none⟩) P.length (P.length+12) (some ⟨b2,0,none⟩) L.length (L.length+12))
 lent:LentN G b1 b2 P L
 net:NetIn G pp pl P L
 sE:Sl G encE 7 (some ⟨be,0,none⟩) es
 sl:Sl G encE 7 pe es
 sk:Sl G encI 1 pk ks
 kk:hget G Rk=.cells false ((ks++marksI).flatMap encI)
 k10:hget G A10=.cells false [.slice q B.length cq,.slice r S.length cr,.int .i64 x]
 k12:hget G A12=.cells false [.slice q' B'.length cq',.slice r' S'.length cr',.int .i64 x']
 sq:Sl G encI 1 q B
 sr:Sl G enc3 3 r S
 sq':Sl G encI 1 q' B'
 sr':Sl G enc3 3 r' S'
 apart:(∀a,q=some a→a.block≠Rk)∧(∀a,r=some a→a.block≠Rk)∧(∀a,q'=some a→a.block≠Rk)∧(∀a,r'=some a→a.block≠Rk)∧A10≠Rk∧A12≠Rk∧H.length<Rk
section
variable {H G G':Heap} {A7 A10 A12 Rk b1 b2 be:Nat} {pp pl pe pk:Option Addr} {cp cl:Nat} {P:List Int} {L:List Leg} {es:List Ev} {ks:List Int} {q r q' r':Option Addr} {cq cr cq' cr':Nat} {B:List Int} {S:List (Int×Int×Int)} {x:Int} {B':List Int} {S':List (Int×Int×Int)} {x':Int}
theorem TS.ext (h:TS H G A7 A10 A12 Rk b1 b2 be pp pl pe pk cp cl P L es ks q r q' r' cq cr cq' cr' B S x B' S' x') (e:Ext G G'):TS H G' A7 A10 A12 Rk b1 b2 be pp pl pe pk cp cl P L es ks q r q' r' cq cr cq' cr' B S x B' S' x':=
 ⟨h.n0,h.s0,h.sk0,h.chg.trans e.chg,e.cells h.k3,e.cells h.k7,⟨e.cells h.lent.i,e.cells h.lent.l⟩,h.net.ext e,e.sl h.sE,e.sl h.sl,e.sl h.sk,e.cells h.kk,e.cells h.k10,e.cells h.k12,e.sl h.sq,e.sl h.sr,e.sl h.sq',e.sl h.sr',h.apart⟩
end
def END3:ACode:=tlC (tlC (tlC (tlC (tlC (tlC (tlC (tlC (tlC (tlC (tlC (tlC (tlC (tlC (tlC c3))))))))))))))
def RightN (n:Nat) (ks:List Int) (i:Nat):Prop:=(ks.length=0→n=0)∧∀j,j<i→ascOk n ks j
theorem tail_ok [OB] {H G:Heap} {A12:Nat} {pp pl pe pk:Option Addr} {cp cl ce ck:Nat} {P:List Int} {L:List Leg} {es:List Ev} {ks:List Int} {q' r':Option Addr} {cq' cr':Nat} {B':List Int} {S':List (Int×Int×Int)} {x':Int} {fr:Nat→Value}
  (hC:Chg [] H G) (hn:NetIn H pp pl P L) (hs:Sl H encE 7 pe es) (hk:Sl H encI 1 pk ks) (he:errI P L es=0) (hk60:ks.length≤60) (k3:hget G H.length=.cells false (netV pp P.length cp pl L.length cl)) (k12:hget G A12=.cells false [.slice q' B'.length cq',.slice r' S'.length cr',.int .i64 x']) (sq':Sl G encI 1 q' B') (sr':Sl G enc3 3 r' S') (hBl':B'.length≤60) (hSl':S'.length≤60)
  (hgood':errC P L es ks=0→B'=ks∧S'=stepsN P L es ks∧x'=costN P L es ks) (hbad':errC P L es ks≠0→B'=[]∧S'=[]∧x'=0)
  (f1:fr 1=.slice pe es.length ce) (f2:fr 2=.slice pk ks.length ck) (f3:fr 3=.pointer (some ⟨H.length,0,none⟩)) (f12:fr 12=.pointer (some ⟨A12,0,none⟩)) (f13:fr 13=.int .i64 (errC P L es ks)) {b:Bool} (f19:fr 19=.bool b) (hb:b=true↔RightN es.length ks 0) (f171:fr 171=.slice pk ks.length ck) (f172:fr 172=.int .i64 (ks.length:Int)) (f173:fr 173=.int .i64 0) (hA:OB.on 7=true) :
  Ret E a3 H.length [.code (.loop l3_1),.inBlock 2,.code END3] fr G fun v _=>v=.bool true:=by
 obtain ⟨hv,h40,hev⟩:=errI_0 he
 have ht:=fun i (hi:i<es.length)=>And.intro (hev i hi).2.1 (hev i hi).2.2.1
 refine Ret_rounds (fun s:Nat×Bool=>ks.length-s.1) (fun s fr' G'=>s.1≤ks.length∧Ext G G'∧(∀j,j≤14→fr' j=fr j)∧fr' 19=.bool s.2∧(s.2=true↔RightN es.length ks s.1)∧fr' 171=.slice pk ks.length ck∧fr' 172=.int .i64 (ks.length:Int)∧fr' 173=.int .i64 (s.1:Int)) (0,b)
  ⟨Nat.zero_le _,Ext.refl,fun _ _=>rfl,f19,hb,f171,f172,by rw [f173];rfl⟩ ?_
 rintro ⟨i,y⟩ fr' G' ⟨hi,hE,hfr,g19,hy,g171,g172,g173⟩ hN
 simp only at hi g19 hy g173
 rw [Ret_code l3_1.eq_1]
 have g1:=(hfr 1 (by decide)).trans f1
 have g2:=(hfr 2 (by decide)).trans f2
 have g3:=(hfr 3 (by decide)).trans f3
 have g12:=(hfr 12 (by decide)).trans f12
 have g13:=(hfr 13 (by decide)).trans f13
 have hCH:Chg [] H G':=hC.trans hE.chg
 have sk:=hCH.sl hk (by simp)
 refine Ret_pad ?_
 by_cases hlt:i<ks.length
 ·have hfr':∀(f:Nat→Value),(∀j,j≤14→f j=fr' j)→∀j,j≤14→f j=fr j:=fun f h j hj=>(h j hj).trans (hfr j hj)
  have lk:=ld_ints (i:=i) sk hlt
  have xk:=ix_ints (i:=i) sk hlt rfl
  have w1:IntKind.i64.wrap ((i:Int)+1)=((i+1:Nat):Int):=wrap_nat (by omega)
  have hst:RightN es.length ks (i+1)↔RightN es.length ks i∧ascOk es.length ks i:=by
   unfold RightN
   constructor
   ·intro h;exact ⟨⟨h.1,fun j hj=>h.2 j (by omega)⟩,h.2 i (by omega)⟩
   ·rintro ⟨h1,h2⟩
    refine ⟨h1.1,fun j hj=>?_⟩
    rcases Nat.lt_or_ge j i with h | h
    ·exact h1.2 j h
    ·obtain rfl:j=i:=by omega
     exact h2
  cases y with
  | false=>
    have hno:¬(RightN es.length ks i∧ascOk es.length ks i):=fun h=>by have:=hy.2 h.1;cases this
    simp only [n3,r3,g1,g2,g19,g171,g172,g173,int_lt_cast,hlt,lk,xk,w1,SB,Nat.reduceLT,callee,aOp,ne_eq,Nat.reduceEqDiff,aBin,aUn,if_true,if_false,reduceCtorEq,frame0,place,notTuple,Nat.reduceAdd,Nat.reduceLeDiff,resVal,dite_true,dite_false,Int.reduceEq,Int.reduceLT,Int.reduceLE]
    exact hN (i+1,false) _ _ ⟨by show i+1≤ks.length;omega,hE.app,hfr' _ fun j hj=>(by simp only [upd];repeat rw [if_neg (by omega)]),(by simp only [FB,Nat.reduceEqDiff]),⟨fun h=>(by cases h),fun h=>(hno (hst.1 h)).elim⟩,(by simp only [g171,FB,Nat.reduceEqDiff]),(by simp only [g172,FB,Nat.reduceEqDiff]),(by simp only [FB,Nat.reduceEqDiff])⟩ (by show ks.length-(i+1)<ks.length-i;omega)
  | true=>
    have hR:=hy.1 rfl
    by_cases h1:0≤gt ks i
    case neg=>
     have hno:¬(RightN es.length ks i∧ascOk es.length ks i):=fun h=>h1 h.2.1
     simp only [n3,r3,g1,g2,g19,g171,g172,g173,int_lt_cast,hlt,lk,xk,w1,eq_false h1,SB,Nat.reduceLT,callee,aOp,ne_eq,Nat.reduceEqDiff,aBin,aUn,if_true,if_false,reduceCtorEq,frame0,place,notTuple,Nat.reduceAdd,Nat.reduceLeDiff,resVal,dite_true,dite_false,Int.reduceEq,Int.reduceLT,Int.reduceLE]
     exact hN (i+1,false) _ _ ⟨by show i+1≤ks.length;omega,hE.app,hfr' _ fun j hj=>(by simp only [upd];repeat rw [if_neg (by omega)]),(by simp only [FB,Nat.reduceEqDiff]),⟨fun h=>(by cases h),fun h=>(hno (hst.1 h)).elim⟩,(by simp only [g171,FB,Nat.reduceEqDiff]),(by simp only [g172,FB,Nat.reduceEqDiff]),(by simp only [FB,Nat.reduceEqDiff])⟩ (by show ks.length-(i+1)<ks.length-i;omega)
    by_cases h2:gt ks i<(es.length:Int)
    case neg=>
     have hno:¬(RightN es.length ks i∧ascOk es.length ks i):=fun h=>h2 h.2.2.1
     simp only [n3,r3,g1,g2,g19,g171,g172,g173,int_lt_cast,hlt,lk,xk,w1,eq_true h1,eq_false h2,SB,Nat.reduceLT,callee,aOp,ne_eq,Nat.reduceEqDiff,aBin,aUn,if_true,if_false,reduceCtorEq,frame0,place,notTuple,Nat.reduceAdd,Nat.reduceLeDiff,resVal,dite_true,dite_false,Int.reduceEq,Int.reduceLT,Int.reduceLE]
     exact hN (i+1,false) _ _ ⟨by show i+1≤ks.length;omega,hE.app,hfr' _ fun j hj=>(by simp only [upd];repeat rw [if_neg (by omega)]),(by simp only [FB,Nat.reduceEqDiff]),⟨fun h=>(by cases h),fun h=>(hno (hst.1 h)).elim⟩,(by simp only [g171,FB,Nat.reduceEqDiff]),(by simp only [g172,FB,Nat.reduceEqDiff]),(by simp only [FB,Nat.reduceEqDiff])⟩ (by show ks.length-(i+1)<ks.length-i;omega)
    by_cases h3:i=0
    ·have hyes:RightN es.length ks i∧ascOk es.length ks i:=⟨hR,h1,h2,fun h=>by omega⟩
     have e3:=eq_true (show (i:Int)=0 by omega)
     simp only [n3,r3,g1,g2,g19,g171,g172,g173,int_lt_cast,hlt,lk,xk,w1,eq_true h1,eq_true h2,e3,SB,Nat.reduceLT,callee,aOp,ne_eq,Nat.reduceEqDiff,aBin,aUn,if_true,if_false,reduceCtorEq,frame0,place,notTuple,Nat.reduceAdd,Nat.reduceLeDiff,resVal,dite_true,dite_false,Int.reduceEq,Int.reduceLT,Int.reduceLE]
     exact hN (i+1,true) _ _ ⟨by show i+1≤ks.length;omega,hE.app,hfr' _ fun j hj=>(by simp only [upd];repeat rw [if_neg (by omega)]),(by simp only [FB,Nat.reduceEqDiff]),⟨fun _=>hst.2 hyes,fun _=>rfl⟩,(by simp only [g171,FB,Nat.reduceEqDiff]),(by simp only [g172,FB,Nat.reduceEqDiff]),(by simp only [FB,Nat.reduceEqDiff])⟩ (by show ks.length-(i+1)<ks.length-i;omega)
    have e3:=eq_false (show ¬(i:Int)=0 by omega)
    have w2:IntKind.i64.wrap ((i:Int)-1)=((i-1:Nat):Int):=by rw [wrap_id (by omega) (by omega)];omega
    have lk1:=ld_ints (i:=i-1) sk (by omega)
    have xk1:=ix_ints (i:=i-1) sk (show i-1<ks.length by omega) rfl
    by_cases h4:gt ks (i-1)<gt ks i
    ·have hyes:RightN es.length ks i∧ascOk es.length ks i:=⟨hR,h1,h2,fun _=>h4⟩
     simp only [n3,r3,g1,g2,g19,g171,g172,g173,int_lt_cast,hlt,lk,xk,w1,eq_true h1,eq_true h2,e3,w2,lk1,xk1,eq_true h4,SB,Nat.reduceLT,callee,aOp,ne_eq,Nat.reduceEqDiff,aBin,aUn,if_true,if_false,reduceCtorEq,frame0,place,notTuple,Nat.reduceAdd,Nat.reduceLeDiff,resVal,dite_true,dite_false,Int.reduceEq,Int.reduceLT,Int.reduceLE]
     exact hN (i+1,true) _ _ ⟨by show i+1≤ks.length;omega,hE.app,hfr' _ fun j hj=>(by simp only [upd];repeat rw [if_neg (by omega)]),(by simp only [FB,Nat.reduceEqDiff]),⟨fun _=>hst.2 hyes,fun _=>rfl⟩,(by simp only [g171,FB,Nat.reduceEqDiff]),(by simp only [g172,FB,Nat.reduceEqDiff]),(by simp only [FB,Nat.reduceEqDiff])⟩ (by show ks.length-(i+1)<ks.length-i;omega)
    ·have hno:¬(RightN es.length ks i∧ascOk es.length ks i):=fun h=>h4 (h.2.2.2 (by omega))
     simp only [n3,r3,g1,g2,g19,g171,g172,g173,int_lt_cast,hlt,lk,xk,w1,eq_true h1,eq_true h2,e3,w2,lk1,xk1,eq_false h4,SB,Nat.reduceLT,callee,aOp,ne_eq,Nat.reduceEqDiff,aBin,aUn,if_true,if_false,reduceCtorEq,frame0,place,notTuple,Nat.reduceAdd,Nat.reduceLeDiff,resVal,dite_true,dite_false,Int.reduceEq,Int.reduceLT,Int.reduceLE]
     exact hN (i+1,false) _ _ ⟨by show i+1≤ks.length;omega,hE.app,hfr' _ fun j hj=>(by simp only [upd];repeat rw [if_neg (by omega)]),(by simp only [FB,Nat.reduceEqDiff]),⟨fun h=>(by cases h),fun h=>(hno (hst.1 h)).elim⟩,(by simp only [g171,FB,Nat.reduceEqDiff]),(by simp only [g172,FB,Nat.reduceEqDiff]),(by simp only [FB,Nat.reduceEqDiff])⟩ (by show ks.length-(i+1)<ks.length-i;omega)
 obtain rfl:i=ks.length:=by omega
 have hKs:y=true↔KsOk es.length ks:=hy
 have k12X:=fun X=>(Ext.refl.app (X:=X)).cells (hE.cells k12)
 have k3X:=fun X=>(Ext.refl.app (X:=X)).cells (hE.cells k3)
 have sqE:=hE.sl sq'
 have srE:=hE.sl sr'
 have hHG:=hCH.len
 cases y with
 | false=>
   have hec:errC P L es ks=2:=by unfold errC;rw [if_neg (by simpa using he),if_neg fun h=>by have:=hKs.2 h;cases this]
   obtain ⟨u1,u2,u3⟩:=hbad' (by rw [hec];decide)
   rw [hec] at g13
   have hs2:∀(X:Heap) (mp:Bool) (lim:Nat) (Q:Value→Heap→Prop),CallR E mp lim 19 [.agg #[.slice q' B'.length cq',.slice r' S'.length cr',.int .i64 x'],.agg #[.slice none 0 0,.slice none 0 0,.int .i64 0]] (G'++X) Q=Q (.bool true) (G'++X):=fun X mp lim Q=>by
    have:=same_ok (mp:=mp) (lim:=lim) (c1:=cq') (c2:=0) (d1:=cr') (d2:=0) (x1:=x') (x2:=0) (k2:=[]) (s2:=[]) (p2:=none) (r2:=none) (Q:=Q) (sqE.app X) (by rfl) (srE.app X) (by rfl) (by omega) (by omega) (by simp)
    rw [decide_eq_true ⟨u3,u1,u2⟩] at this
    exact this
   simp only [n3,r3,END3,tlC,c3,g1,g2,g3,g12,g13,g19,g171,g172,g173,int_lt_cast,hlt,k12X,hs2,take_all,awake38_on hA,SB,Nat.reduceLT,callee,aOp,ne_eq,Nat.reduceEqDiff,aBin,aUn,if_true,if_false,reduceCtorEq,frame0,place,notTuple,Nat.reduceAdd,Nat.reduceLeDiff,resVal,dite_true,dite_false,Int.reduceEq,Int.reduceLT,Int.reduceLE]
 | true=>
   have hok:=hKs.1 rfl
   have hec:errC P L es ks=0:=by unfold errC;rw [if_neg (by simpa using he),if_pos hok]
   obtain ⟨u1,u2,u3⟩:=hgood' hec
   rw [hec] at g13
   simp only [n3,r3,END3,tlC,c3,g1,g2,g3,g12,g13,g19,g171,g172,g173,int_lt_cast,hlt,k12X,k3X,netV_len,netV_0,netV_1,take_all,SB,Nat.reduceLT,callee,aOp,ne_eq,Nat.reduceEqDiff,aBin,aUn,if_true,if_false,reduceCtorEq,frame0,place,notTuple,Nat.reduceAdd,Nat.reduceLeDiff,resVal,dite_true,dite_false,Int.reduceEq,Int.reduceLT,Int.reduceLE]
   refine given_ok ((hCH.sl hs (by simp)).app _) (by omega) (by simp) fun G3 qa ca hC3 hOa=>?_
   rw [List.append_nil] at hC3
   have hCH3:=hCH.trans hC3
   have sa:=hOa.sl encE_len
   refine Ret_pad ?_
   simp only [n3,r3,SB,Nat.reduceLT,callee,aOp,ne_eq,Nat.reduceEqDiff,aBin,aUn,if_true,if_false,reduceCtorEq,frame0,place,notTuple,Nat.reduceAdd,Nat.reduceLeDiff,resVal,dite_true,dite_false,Int.reduceEq,Int.reduceLT,Int.reduceLE]
   refine rcost_ok (ks:=ks) ((hn.ext hCH3.ext).app _) hv (sa.app _) h40 ht ((hCH3.sl hk (by simp)).app _) hk60 hok.mem (by simp) fun G4 rB crB hC4 hrB=>?_
   rw [List.append_nil] at hC4
   have hCH4:=hCH3.trans hC4
   have hE4:=hE.trans (hC3.trans hC4).ext
   have hs3:∀(X:Heap) (mp:Bool) (lim:Nat) (Q:Value→Heap→Prop),CallR E mp lim 19 [.agg #[.slice q' B'.length cq',.slice r' S'.length cr',.int .i64 x'],.agg #[.slice pk ks.length ck,.slice rB (stepsN P L es ks).length crB,.int .i64 (costN P L es ks)]] (G4++X) Q=Q (.bool true) (G4++X):=fun X mp lim Q=>by
    have:=same_ok (mp:=mp) (lim:=lim) (c1:=cq') (c2:=ck) (d1:=cr') (d2:=crB) (x1:=x') (x2:=costN P L es ks) (Q:=Q) ((hE4.sl sq').app X) ((hCH4.sl hk (by simp)).app X) ((hE4.sl sr').app X) (hrB.1.app X) (by omega) (by omega) (by rw [←u2];omega)
    rw [decide_eq_true ⟨u3,u1,u2⟩] at this
    exact this
   refine Ret_pad ?_
   simp only [n3,r3,hs3,awake38_on hA,SB,Nat.reduceLT,callee,aOp,ne_eq,Nat.reduceEqDiff,aBin,aUn,if_true,if_false,reduceCtorEq,frame0,place,notTuple,Nat.reduceAdd,Nat.reduceLeDiff,resVal,dite_true,dite_false,Int.reduceEq,Int.reduceLT,Int.reduceLE]
theorem fin_ok [OB] {H G:Heap} {A7 A10 A12 Rk b1 b2 be:Nat} {pp pl pe pk:Option Addr} {cp cl ce ce' ck:Nat} {P:List Int} {L:List Leg} {es:List Ev} {ks:List Int} {q r q' r':Option Addr} {cq cr cq' cr':Nat} {B:List Int} {S:List (Int×Int×Int)} {x:Int} {B':List Int} {S':List (Int×Int×Int)} {x':Int} {fr:Nat→Value}
  (h:TS H G A7 A10 A12 Rk b1 b2 be pp pl pe pk cp cl P L es ks q r q' r' cq cr cq' cr' B S x B' S' x') (hf:fewP P.length L.length es.length) (hk60:ks.length≤60) (hce:CapOk 7 ce es.length) (hBl:B.length≤60) (hSl:S.length≤60) (hBl':B'.length≤60) (hSl':S'.length≤60)
  (hgood:errI P L es=0→B=bestN P L es∧S=stepsN P L es (bestN P L es)∧x=costN P L es (bestN P L es)) (hbad:errI P L es≠0→B=[]∧S=[]∧x=0) (hgood':errC P L es ks=0→B'=ks∧S'=stepsN P L es ks∧x'=costN P L es ks) (hbad':errC P L es ks≠0→B'=[]∧S'=[]∧x'=0)
  (f1:fr 1=.slice pe es.length ce) (f2:fr 2=.slice pk ks.length ck) (f3:fr 3=.pointer (some ⟨H.length,0,none⟩)) (f7:fr 7=.pointer (some ⟨A7,0,none⟩)) (f8:fr 8=.slice (some ⟨Rk,0,none⟩) ks.length (ks.length+12)) (f9:fr 9=.slice (some ⟨be,0,none⟩) es.length ce') (f10:fr 10=.pointer (some ⟨A10,0,none⟩)) (f11:fr 11=.int .i64 (errI P L es)) (f12:fr 12=.pointer (some ⟨A12,0,none⟩)) (f13:fr 13=.int .i64 (errC P L es ks)) (f14:fr 14=.int .i64 (errI P L es)) (hA:OB.on 7=true) :
  Ret E a3 H.length [.code FIN3] fr G fun v _=>v=.bool true:=by
 have hce0:es.length<2 ^ 60:=by unfold fewP at hf;omega
 have hHG:=h.chg.len
 refine Ret_pad ?_
 simp only [n3,r3,FIN3,tlC,c3,f1,SB,Nat.reduceLT,callee,aOp,ne_eq,Nat.reduceEqDiff,aBin,aUn,if_true,if_false,reduceCtorEq,frame0,place,notTuple,Nat.reduceAdd,Nat.reduceLeDiff,resVal,dite_true,dite_false,Int.reduceEq,Int.reduceLT,Int.reduceLE]
 refine Ret_rounds (fun i=>es.length-i) (fun i fr' G'=>i≤es.length∧TS H G' A7 A10 A12 Rk b1 b2 be pp pl pe pk cp cl P L es ks q r q' r' cq cr cq' cr' B S x B' S' x'∧(∀j,j≤14→fr' j=fr j)∧fr' 103=.int .i64 (es.length:Int)∧fr' 104=.int .i64 (i:Int)) 0
  ⟨Nat.zero_le _,h.ext Ext.refl.app,fun j hj=>by
   simp only [upd]
   repeat rw [if_neg (by omega)],(by simp only [FB,Nat.reduceEqDiff]),by rfl⟩ ?_
 intro i fr' G' ⟨hi,h',hfr,g103,g104⟩ hN
 rw [Ret_code l3_2.eq_1]
 have g1:=(hfr 1 (by decide)).trans f1
 have g9:=(hfr 9 (by decide)).trans f9
 refine Ret_pad ?_
 by_cases hlt:i<es.length
 ·have la:=fun X=>(h'.sE.app X).loadCells encE_len hlt
  have lb:=fun X=>(h'.sl.app X).loadCells encE_len hlt
  have xa:=fun c (kk:IntKind) (H1:Heap)=>h'.sE.idx (c:=c) (k:=kk) (H1:=H1) hlt
  have xb:=fun c (kk:IntKind) (H1:Heap)=>h'.sl.idx (c:=c) (k:=kk) (H1:=H1) hlt
  have w1:IntKind.i64.wrap ((i:Int)+1)=((i+1:Nat):Int):=wrap_nat (by omega)
  have eqE:∀y:Ev,aEq (.agg [.int .i64,.int .i64,.int .i64,.int .u8,.int .i64,.int .i64,.int .i64]) (.agg (encE y).toArray) (.agg (encE y).toArray)=some true:=fun y=>by simp [aEq,encE,cellsEq,cellEq]
  simp only [n3,r3,g1,g9,g103,g104,int_lt_cast,hlt,la,lb,xa,xb,eqE,Bool.not_true,encE_len,take_all,w1,SB,Nat.reduceLT,callee,aOp,ne_eq,Nat.reduceEqDiff,aBin,aUn,if_true,if_false,reduceCtorEq,frame0,place,notTuple,Nat.reduceAdd,Nat.reduceLeDiff,resVal,dite_true,dite_false,Int.reduceEq,Int.reduceLT,Int.reduceLE]
  exact hN (i+1) _ _ ⟨by omega,h'.ext Ext.refl.app,fun j hj=>by
   rw [←hfr j hj]
   simp only [upd]
   repeat rw [if_neg (by omega)],(by simp only [g103,FB,Nat.reduceEqDiff]),(by simp only [FB,Nat.reduceEqDiff])⟩ (by omega)
 obtain rfl:i=es.length:=by omega
 have g2:=(hfr 2 (by decide)).trans f2
 have g3:=(hfr 3 (by decide)).trans f3
 have g7:=(hfr 7 (by decide)).trans f7
 have g8:=(hfr 8 (by decide)).trans f8
 have g10:=(hfr 10 (by decide)).trans f10
 have g11:=(hfr 11 (by decide)).trans f11
 have g12:=(hfr 12 (by decide)).trans f12
 have g13:=(hfr 13 (by decide)).trans f13
 have g14:=(hfr 14 (by decide)).trans f14
 have k3X:=fun X=>(Ext.refl.app (X:=X)).cells h'.k3
 have k7X:=fun X=>(Ext.refl.app (X:=X)).cells h'.k7
 unfold fewP at hf
 have hkn:=fun X (mp:Bool) (lim:Nat) (Q:Value→Heap→Prop)=>keptnet_ok (mp:=mp) (lim:=lim) (d1:=cp) (d2:=cl) (b1:=b1) (b2:=b2) (Q:=Q) (⟨(Ext.refl.app (X:=X)).cells h'.lent.i,(Ext.refl.app (X:=X)).cells h'.lent.l⟩) (h'.net.app X) (by omega) (by omega)
 have hki:=fun X (mp:Bool) (lim:Nat) (Q:Value→Heap→Prop)=>keptI_ok (mp:=mp) (lim:=lim) (c:=ck) (R:=Rk) (Q:=Q) (h'.sk.app X) (by omega) ((Ext.refl.app (X:=X)).cells h'.kk)
 simp only [n3,r3,g1,g2,g3,g7,g8,g103,g104,int_lt_cast,hlt,k3X,k7X,netV_len,netV_0,netV_1,take_all,hkn,hki,SB,Nat.reduceLT,callee,aOp,ne_eq,Nat.reduceEqDiff,aBin,aUn,if_true,if_false,reduceCtorEq,frame0,place,notTuple,Nat.reduceAdd,Nat.reduceLeDiff,resVal,dite_true,dite_false,Int.reduceEq,Int.reduceLT,Int.reduceLE]
 refine over_ok ((Ext.refl.app).cells h'.kk) (by omega) (by have:=h'.apart;omega) fun G2 hC2=>?_
 rw [List.append_nil] at hC2
 obtain ⟨ap1,ap2,ap3,ap4,ap5,ap6,ap7⟩:=h'.apart
 have hCH:Chg [] H G2:=h'.chg.trans' hC2 fun j hj hjl=>by simp at hj;omega
 have n2:=h'.n0.ext hCH.ext
 have sl2:=hCH.sl h'.s0 (by simp)
 have sk2:=hCH.sl h'.sk0 (by simp)
 have c10:=hC2.cells h'.k10 (by simpa using ap5)
 have c12:=hC2.cells h'.k12 (by simpa using ap6)
 have c3:=hC2.cells h'.k3 (by simp;omega)
 have sq2:=hC2.sl h'.sq fun a ha _ hm=>ap1 a ha (by simpa using hm)
 have sr2:=hC2.sl h'.sr fun a ha _ hm=>ap2 a ha (by simpa using hm)
 have sq2':=hC2.sl h'.sq' fun a ha _ hm=>ap3 a ha (by simpa using hm)
 have sr2':=hC2.sl h'.sr' fun a ha _ hm=>ap4 a ha (by simpa using hm)
 have c10X:=fun X=>(Ext.refl.app (X:=X)).cells c10
 have c12X:=fun X=>(Ext.refl.app (X:=X)).cells c12
 have c3X:=fun X=>(Ext.refl.app (X:=X)).cells c3
 have hs1:∀(X:Heap) (mp:Bool) (lim:Nat) (Q:Value→Heap→Prop),CallR E mp lim 19 [.agg #[.slice q B.length cq,.slice r S.length cr,.int .i64 x],.agg #[.slice none 0 0,.slice none 0 0,.int .i64 0]] (G2++X) Q=Q (.bool (decide (x=0∧B=[]∧S=[]))) (G2++X):=fun X mp lim Q=>same_ok (k2:=[]) (s2:=[]) (sq2.app X) (by rfl) (sr2.app X) (by rfl) (by omega) (by omega) (by simp)
 have hs2:∀(X:Heap) (mp:Bool) (lim:Nat) (Q:Value→Heap→Prop),CallR E mp lim 19 [.agg #[.slice q' B'.length cq',.slice r' S'.length cr',.int .i64 x'],.agg #[.slice none 0 0,.slice none 0 0,.int .i64 0]] (G2++X) Q=Q (.bool (decide (x'=0∧B'=[]∧S'=[]))) (G2++X):=fun X mp lim Q=>same_ok (k2:=[]) (s2:=[]) (sq2'.app X) (by rfl) (sr2'.app X) (by rfl) (by omega) (by omega) (by simp)
 have hHG2:=hCH.len
 refine Ret_pad ?_
 by_cases he:errI P L es=0
 case neg=>
  have hec:errC P L es ks=errI P L es:=by unfold errC;rw [if_pos he]
  have d1:=decide_eq_true (hbad he)
  have d2:decide (x'=0∧B'=[]∧S'=[])=true:=by
   obtain ⟨u1,u2,u3⟩:=hbad' (by rw [hec];exact he)
   exact decide_eq_true ⟨u3,u1,u2⟩
  have d1:decide (x=0∧B=[]∧S=[])=true:=by
   obtain ⟨u1,u2,u3⟩:=hbad he
   exact decide_eq_true ⟨u3,u1,u2⟩
  rw [hec] at g13
  rw [d1] at hs1
  rw [d2] at hs2
  simp only [n3,r3,g10,g11,g12,g13,g14,eq_false he,c10X,c12X,hs1,hs2,take_all,awake38_on hA,SB,Nat.reduceLT,callee,aOp,ne_eq,Nat.reduceEqDiff,aBin,aUn,if_true,if_false,reduceCtorEq,frame0,place,notTuple,Nat.reduceAdd,Nat.reduceLeDiff,resVal,dite_true,dite_false,Int.reduceEq,Int.reduceLT,Int.reduceLE]
 obtain ⟨hB1,hS1,hx1⟩:=hgood he
 obtain ⟨hv,h40,hev⟩:=errI_0 he
 have ht:=fun i (hi:i<es.length)=>And.intro (hev i hi).2.1 (hev i hi).2.2.1
 rw [he] at g11 g14
 simp only [n3,r3,g1,g2,g3,g10,g11,g12,g13,g14,c10X,c12X,c3X,netV_len,netV_0,netV_1,take_all,SB,Nat.reduceLT,callee,aOp,ne_eq,Nat.reduceEqDiff,aBin,aUn,if_true,if_false,reduceCtorEq,frame0,place,notTuple,Nat.reduceAdd,Nat.reduceLeDiff,resVal,dite_true,dite_false,Int.reduceEq,Int.reduceLT,Int.reduceLE]
 refine given_ok (sl2.app _) (by omega) (by simp) fun G3 qa ca hC3 hOa=>?_
 rw [List.append_nil] at hC3
 have hCH3:=hCH.trans hC3
 have n3':=h'.n0.ext hCH3.ext
 have sa:=hOa.sl encE_len
 have hHG3:=hCH3.len
 refine Ret_pad ?_
 simp only [n3,r3,SB,Nat.reduceLT,callee,aOp,ne_eq,Nat.reduceEqDiff,aBin,aUn,if_true,if_false,reduceCtorEq,frame0,place,notTuple,Nat.reduceAdd,Nat.reduceLeDiff,resVal,dite_true,dite_false,Int.reduceEq,Int.reduceLT,Int.reduceLE]
 refine rbest_ok (n3'.app _) hv (sa.app _) h40 ht (by simp) fun G4 qB cB rB crB hC4 hqB hrB=>?_
 rw [List.append_nil] at hC4
 have hCH4:=hCH3.trans hC4
 have hC24:=hC3.trans hC4
 have k10:=fun X=>(Ext.refl.app (X:=X)).cells (hC24.cells c10 (by simp))
 have hs3:∀(X:Heap) (mp:Bool) (lim:Nat) (Q:Value→Heap→Prop),CallR E mp lim 19 [.agg #[.slice q B.length cq,.slice r S.length cr,.int .i64 x],.agg #[.slice qB (bestN P L es).length cB,.slice rB (stepsN P L es (bestN P L es)).length crB,.int .i64 (costN P L es (bestN P L es))]] (G4++X) Q=Q (.bool true) (G4++X):=fun X mp lim Q=>by
  have:=same_ok (mp:=mp) (lim:=lim) (c1:=cq) (c2:=cB) (d1:=cr) (d2:=crB) (x1:=x) (x2:=costN P L es (bestN P L es)) (Q:=Q) ((hC24.sl sq2 (by simp)).app X) (hqB.1.app X) ((hC24.sl sr2 (by simp)).app X) (hrB.1.app X) (by omega) (by omega) (by rw [←hS1];omega)
  rw [decide_eq_true ⟨hx1,hB1,hS1⟩] at this
  exact this
 refine Ret_pad ?_
 by_cases hz:0<ks.length
 ·simp only [n3,r3,hs3,Bool.not_true,g2,g1,eq_true hz,SB,Nat.reduceLT,callee,aOp,ne_eq,Nat.reduceEqDiff,aBin,aUn,if_true,if_false,reduceCtorEq,frame0,place,notTuple,Nat.reduceAdd,Nat.reduceLeDiff,resVal,dite_true,dite_false,Int.reduceEq,Int.reduceLT,Int.reduceLE]
  refine tail_ok (b:=true) (A12:=A12) (cp:=cp) (cl:=cl) (pp:=pp) (pl:=pl) (P:=P) (L:=L) (es:=es) (ce:=ce) (ck:=ck) (q':=q') (r':=r') (cq':=cq') (cr':=cr') (B':=B') (S':=S') (x':=x') hCH4.app h'.n0 h'.s0 h'.sk0 he hk60 ((Ext.refl.app).cells (hC24.cells c3 (by simp))) ((Ext.refl.app).cells (hC24.cells c12 (by simp))) ((hC24.sl sq2' (by simp)).app _) ((hC24.sl sr2' (by simp)).app _) hBl' hSl' hgood' hbad' (by simp only [g1,FB,Nat.reduceEqDiff]) (by simp only [g2,FB,Nat.reduceEqDiff]) (by simp only [g3,FB,Nat.reduceEqDiff]) (by simp only [g12,FB,Nat.reduceEqDiff]) (by simp only [g13,FB,Nat.reduceEqDiff]) (by simp only [FB,Nat.reduceEqDiff]) ?_ (by simp only [g2,FB,Nat.reduceEqDiff]) (by simp only [g2,FB,Nat.reduceEqDiff]) (by simp only [FB,Nat.reduceEqDiff]) hA
  exact ⟨fun _=>⟨fun h=>by omega,fun j hj=>by omega⟩,fun _=>rfl⟩
 by_cases hw:(es.length:Int)=0
 ·simp only [n3,r3,hs3,Bool.not_true,g2,g1,eq_false hz,eq_true hw,SB,Nat.reduceLT,callee,aOp,ne_eq,Nat.reduceEqDiff,aBin,aUn,if_true,if_false,reduceCtorEq,frame0,place,notTuple,Nat.reduceAdd,Nat.reduceLeDiff,resVal,dite_true,dite_false,Int.reduceEq,Int.reduceLT,Int.reduceLE]
  refine tail_ok (b:=true) (A12:=A12) (cp:=cp) (cl:=cl) (pp:=pp) (pl:=pl) (P:=P) (L:=L) (es:=es) (ce:=ce) (ck:=ck) (q':=q') (r':=r') (cq':=cq') (cr':=cr') (B':=B') (S':=S') (x':=x') hCH4.app h'.n0 h'.s0 h'.sk0 he hk60 ((Ext.refl.app).cells (hC24.cells c3 (by simp))) ((Ext.refl.app).cells (hC24.cells c12 (by simp))) ((hC24.sl sq2' (by simp)).app _) ((hC24.sl sr2' (by simp)).app _) hBl' hSl' hgood' hbad' (by simp only [g1,FB,Nat.reduceEqDiff]) (by simp only [g2,FB,Nat.reduceEqDiff]) (by simp only [g3,FB,Nat.reduceEqDiff]) (by simp only [g12,FB,Nat.reduceEqDiff]) (by simp only [g13,FB,Nat.reduceEqDiff]) (by simp only [FB,Nat.reduceEqDiff]) ?_ (by simp only [g2,FB,Nat.reduceEqDiff]) (by simp only [g2,FB,Nat.reduceEqDiff]) (by simp only [FB,Nat.reduceEqDiff]) hA
  exact ⟨fun _=>⟨fun h=>by omega,fun j hj=>by omega⟩,fun _=>rfl⟩
 ·simp only [n3,r3,hs3,Bool.not_true,g2,g1,eq_false hz,eq_false hw,SB,Nat.reduceLT,callee,aOp,ne_eq,Nat.reduceEqDiff,aBin,aUn,if_true,if_false,reduceCtorEq,frame0,place,notTuple,Nat.reduceAdd,Nat.reduceLeDiff,resVal,dite_true,dite_false,Int.reduceEq,Int.reduceLT,Int.reduceLE]
  refine tail_ok (b:=false) (A12:=A12) (cp:=cp) (cl:=cl) (pp:=pp) (pl:=pl) (P:=P) (L:=L) (es:=es) (ce:=ce) (ck:=ck) (q':=q') (r':=r') (cq':=cq') (cr':=cr') (B':=B') (S':=S') (x':=x') hCH4.app h'.n0 h'.s0 h'.sk0 he hk60 ((Ext.refl.app).cells (hC24.cells c3 (by simp))) ((Ext.refl.app).cells (hC24.cells c12 (by simp))) ((hC24.sl sq2' (by simp)).app _) ((hC24.sl sr2' (by simp)).app _) hBl' hSl' hgood' hbad' (by simp only [g1,FB,Nat.reduceEqDiff]) (by simp only [g2,FB,Nat.reduceEqDiff]) (by simp only [g3,FB,Nat.reduceEqDiff]) (by simp only [g12,FB,Nat.reduceEqDiff]) (by simp only [g13,FB,Nat.reduceEqDiff]) (by simp only [FB,Nat.reduceEqDiff]) ?_ (by simp only [g2,FB,Nat.reduceEqDiff]) (by simp only [g2,FB,Nat.reduceEqDiff]) (by simp only [FB,Nat.reduceEqDiff]) hA
  exact ⟨fun h=>(by cases h),fun h=>by have:=h.1;omega⟩
theorem br_ok [OB] {H G:Heap} {A7 A10 A12 Rk b1 b2 be:Nat} {pp pl pe pk:Option Addr} {cp cl ce ce' ck:Nat} {P:List Int} {L:List Leg} {es:List Ev} {ks:List Int} {q r q' r':Option Addr} {cq cr cq' cr':Nat} {B:List Int} {S:List (Int×Int×Int)} {x:Int} {B':List Int} {S':List (Int×Int×Int)} {x':Int} {fr:Nat→Value}
  (h:TS H G A7 A10 A12 Rk b1 b2 be pp pl pe pk cp cl P L es ks q r q' r' cq cr cq' cr' B S x B' S' x') (hf:fewP P.length L.length es.length) (hk60:ks.length≤60) (hce:CapOk 7 ce es.length) (hBl:B.length≤60) (hSl:S.length≤60) (hBl':B'.length≤60) (hSl':S'.length≤60)
  (hgood:errI P L es=0→B=bestN P L es∧S=stepsN P L es (bestN P L es)∧x=costN P L es (bestN P L es)) (hbad:errI P L es≠0→B=[]∧S=[]∧x=0) (hgood':errC P L es ks=0→B'=ks∧S'=stepsN P L es ks∧x'=costN P L es ks) (hbad':errC P L es ks≠0→B'=[]∧S'=[]∧x'=0)
  (f1:fr 1=.slice pe es.length ce) (f2:fr 2=.slice pk ks.length ck) (f3:fr 3=.pointer (some ⟨H.length,0,none⟩)) (f7:fr 7=.pointer (some ⟨A7,0,none⟩)) (f8:fr 8=.slice (some ⟨Rk,0,none⟩) ks.length (ks.length+12)) (f9:fr 9=.slice (some ⟨be,0,none⟩) es.length ce') (f10:fr 10=.pointer (some ⟨A10,0,none⟩)) (f11:fr 11=.int .i64 (errI P L es)) (f12:fr 12=.pointer (some ⟨A12,0,none⟩)) (f13:fr 13=.int .i64 (errC P L es ks)) (f14:fr 14=.int .i64 (errI P L es)) (hA:OB.on 7=true) :
  Ret E a3 H.length [.code BR3,.code FIN3] fr G fun v _=>v=.bool true:=by
 unfold fewP at hf
 have k3X:=fun X=>(Ext.refl.app (X:=X)).cells h.k3
 have k7X:=fun X=>(Ext.refl.app (X:=X)).cells h.k7
 have hHG:=h.chg.len
 by_cases h2:(2:Int)≤(es.length:Int)
 case neg=>
  refine Ret_pad ?_
  simp only [n3,r3,BR3,hdC,tlC,c3,f1,eq_false h2,SB,Nat.reduceLT,callee,aOp,ne_eq,Nat.reduceEqDiff,aBin,aUn,if_true,if_false,reduceCtorEq,frame0,place,notTuple,Nat.reduceAdd,Nat.reduceLeDiff,resVal,dite_true,dite_false,Int.reduceEq,Int.reduceLT,Int.reduceLE]
  exact fin_ok (ck:=ck) (ce':=ce') (h.ext Ext.refl.app) (by unfold fewP;exact hf) hk60 hce hBl hSl hBl' hSl' hgood hbad hgood' hbad' (by simp only [f1,FB,Nat.reduceEqDiff]) (by simp only [f2,FB,Nat.reduceEqDiff]) (by simp only [f3,FB,Nat.reduceEqDiff]) (by simp only [f7,FB,Nat.reduceEqDiff]) (by simp only [f8,FB,Nat.reduceEqDiff]) (by simp only [f9,FB,Nat.reduceEqDiff]) (by simp only [f10,FB,Nat.reduceEqDiff]) (by simp only [f11,FB,Nat.reduceEqDiff]) (by simp only [f12,FB,Nat.reduceEqDiff]) (by simp only [f13,FB,Nat.reduceEqDiff]) (by simp only [f14,FB,Nat.reduceEqDiff]) hA
 have hn7:=h.lent.net h.net
 have hPr:=fun X (mp:Bool) (lim:Nat) (Q:Value→Heap→Prop)=>Price_ok (mp:=mp) (lim:=lim) (cp:=P.length+12) (cl:=L.length+12) (a:=gt es 0) (b:=gt es 1) (Q:=Q) (hn7.app X)
 have l0:=fun X=>(h.sE.app X).loadCells encE_len (show 0<es.length by omega)
 have l1:=fun X=>(h.sE.app X).loadCells encE_len (show 1<es.length by omega)
 have x0:=fun c (kk:IntKind) (H1:Heap)=>h.sE.idx (c:=c) (k:=kk) (H1:=H1) (i:=0) (by omega)
 have x1:=fun c (kk:IntKind) (H1:Heap)=>h.sE.idx (c:=c) (k:=kk) (H1:=H1) (i:=1) (by omega)
 simp only [Int.cast_ofNat_Int] at x0 x1
 obtain ⟨q1,c1,e1,s1,_,_,_⟩:=slice_cut (vlo:=none) (vhi:=some (.int .i64 2)) (lo:=0) (hi:=2) h.sl hce encE_len (fun cap hcap=>bv_010 (by omega) (by omega)) (Nat.zero_le _) (by omega) (by omega)
 rw [List.drop_zero] at s1
 have htk:es.take 2=[gt es 0,gt es 1]:=by
  rw [List.take_succ_eq_append_getElem (by omega),List.take_succ_eq_append_getElem (by omega),←gt_lt,←gt_lt];rfl
 rw [htk] at s1
 simp only [Nat.sub_zero] at e1
 refine Ret_pad ?_
 simp only [n3,r3,BR3,hdC,tlC,c3,f1,f3,f7,f9,eq_true h2,k3X,k7X,netV_len,netV_0,netV_1,take_all,l0,l1,x0,x1,hPr,e1,hHG,SB,Nat.reduceLT,callee,aOp,ne_eq,Nat.reduceEqDiff,aBin,aUn,if_true,if_false,reduceCtorEq,frame0,place,notTuple,Nat.reduceAdd,Nat.reduceLeDiff,resVal,dite_true,dite_false,Int.reduceEq,Int.reduceLT,Int.reduceLE]
 refine given_ok (es:=[gt es 0,gt es 1]) (s1.app _) (by simp) (by simp) fun G2 qg cg hC2 hOg=>?_
 rw [List.append_nil] at hC2
 have h2':=h.ext hC2.ext
 have sg:=hOg.sl encE_len
 have hre:∀(X:Heap) (mp:Bool) (lim:Nat) (Q:Value→Heap→Prop),CallR E mp lim 12 [.agg (netV pp P.length cp pl L.length cl).toArray,.slice qg 2 cg] (G2++X) Q=Q (.int .i64 (errI P L [gt es 0,gt es 1])) (G2++X):=fun X mp lim Q=>rerr_ok (es:=[gt es 0,gt es 1]) (h2'.net.app X) (sg.app X) (by simp)
 have hHG2:=h2'.chg.len
 have k3X2:=fun X=>(Ext.refl.app (X:=X)).cells h2'.k3
 refine Ret_pad ?_
 by_cases he:errI P L [gt es 0,gt es 1]=0
 case neg=>
  simp only [n3,r3,List.length_cons,List.length_nil,hre,eq_false he,SB,Nat.reduceLT,callee,aOp,ne_eq,Nat.reduceEqDiff,aBin,aUn,if_true,if_false,reduceCtorEq,frame0,place,notTuple,Nat.reduceAdd,Nat.reduceLeDiff,resVal,dite_true,dite_false,Int.reduceEq,Int.reduceLT,Int.reduceLE]
  exact fin_ok (ck:=ck) (ce':=ce') (h2'.ext Ext.refl.app) (by unfold fewP;exact hf) hk60 hce hBl hSl hBl' hSl' hgood hbad hgood' hbad' (by simp only [f1,FB,Nat.reduceEqDiff]) (by simp only [f2,FB,Nat.reduceEqDiff]) (by simp only [f3,FB,Nat.reduceEqDiff]) (by simp only [f7,FB,Nat.reduceEqDiff]) (by simp only [f8,FB,Nat.reduceEqDiff]) (by simp only [f9,FB,Nat.reduceEqDiff]) (by simp only [f10,FB,Nat.reduceEqDiff]) (by simp only [f11,FB,Nat.reduceEqDiff]) (by simp only [f12,FB,Nat.reduceEqDiff]) (by simp only [f13,FB,Nat.reduceEqDiff]) (by simp only [f14,FB,Nat.reduceEqDiff]) hA
 rw [he] at hre
 have eW:(if errI P L [gt es 0,gt es 1]=0 then priceN P L (gt es 0) (gt es 1) else 0)=priceN P L (gt es 0) (gt es 1):=if_pos he
 simp only [n3,r3,List.length_cons,List.length_nil,hre,eq_true he,f1,f3,k3X2,netV_len,netV_0,netV_1,take_all,SB,Nat.reduceLT,callee,aOp,ne_eq,Nat.reduceEqDiff,aBin,aUn,if_true,if_false,reduceCtorEq,frame0,place,notTuple,Nat.reduceAdd,Nat.reduceLeDiff,resVal,dite_true,dite_false,Int.reduceEq,Int.reduceLT,Int.reduceLE]
 refine given_ok (h2'.sl.app _) (by omega) (by simp) fun G3 qa ca hC3 hOa=>?_
 rw [List.append_nil] at hC3
 have h3':=h2'.ext hC3.ext
 have sa:=hOa.sl encE_len
 have a0:=fun X=>(sa.app X).loadCells encE_len (show 0<es.length by omega)
 have y0:=fun c (kk:IntKind) (H1:Heap)=>sa.idx (c:=c) (k:=kk) (H1:=H1) (i:=0) (by omega)
 simp only [Int.cast_ofNat_Int] at y0
 refine Ret_pad ?_
 simp only [n3,r3,a0,y0,SB,Nat.reduceLT,callee,aOp,ne_eq,Nat.reduceEqDiff,aBin,aUn,if_true,if_false,reduceCtorEq,frame0,place,notTuple,Nat.reduceAdd,Nat.reduceLeDiff,resVal,dite_true,dite_false,Int.reduceEq,Int.reduceLT,Int.reduceLE]
 refine given_ok (h3'.sl.app _) (by omega) (by simp) fun G4 qb cb hC4 hOb=>?_
 rw [List.append_nil] at hC4
 have h4':=h3'.ext hC4.ext
 have sb:=hOb.sl encE_len
 have b1':=fun X=>(sb.app X).loadCells encE_len (show 1<es.length by omega)
 have z1:=fun c (kk:IntKind) (H1:Heap)=>sb.idx (c:=c) (k:=kk) (H1:=H1) (i:=1) (by omega)
 simp only [Int.cast_ofNat_Int] at z1
 obtain ⟨hv,_,hev⟩:=errI_0 he
 have t0:=hev 0 (by simp)
 have t1:=hev 1 (by simp)
 have hrp:=fun X (mp:Bool) (lim:Nat) (Q:Value→Heap→Prop)=>rprice_ok (mp:=mp) (lim:=lim) (cp:=cp) (cl:=cl) (a:=gt es 0) (b:=gt es 1) (Q:=Q) (h4'.net.app X) hv ⟨t0.2.1,t0.2.2.1⟩ ⟨t1.2.1,t1.2.2.1⟩
 refine Ret_pad ?_
 simp only [n3,r3,b1',z1,hrp,SB,Nat.reduceLT,callee,aOp,ne_eq,Nat.reduceEqDiff,aBin,aUn,if_true,if_false,reduceCtorEq,frame0,place,notTuple,Nat.reduceAdd,Nat.reduceLeDiff,resVal,dite_true,dite_false,Int.reduceEq,Int.reduceLT,Int.reduceLE]
 exact fin_ok (ck:=ck) (ce':=ce') (h4'.ext Ext.refl.app) (by unfold fewP;exact hf) hk60 hce hBl hSl hBl' hSl' hgood hbad hgood' hbad' (by simp only [f1,FB,Nat.reduceEqDiff]) (by simp only [f2,FB,Nat.reduceEqDiff]) (by simp only [f3,FB,Nat.reduceEqDiff]) (by simp only [f7,FB,Nat.reduceEqDiff]) (by simp only [f8,FB,Nat.reduceEqDiff]) (by simp only [f9,FB,Nat.reduceEqDiff]) (by simp only [f10,FB,Nat.reduceEqDiff]) (by simp only [f11,FB,Nat.reduceEqDiff]) (by simp only [f12,FB,Nat.reduceEqDiff]) (by simp only [f13,FB,Nat.reduceEqDiff]) (by simp only [f14,FB,Nat.reduceEqDiff]) hA
theorem Tells_ok [OB] {mp:Bool} {lim cp cl ce ck:Nat} {pp pl pe pk:Option Addr} {P:List Int} {L:List Leg} {es:List Ev} {ks:List Int} {H:Heap} {Q:Value→Heap→Prop} (hn:NetIn H pp pl P L) (hs:Sl H encE 7 pe es) (hsl:es.length<2 ^ 63) (hce:CapOk 7 ce es.length) (hk:Sl H encI 1 pk ks) (hkl:ks.length<2 ^ 63) (hA:OB.on 7=true) :
  CallR E mp lim 3 [.agg (netV pp P.length cp pl L.length cl).toArray,.slice pe es.length ce,.slice pk ks.length ck] H Q=Q (.bool true) H:=by
 refine pc (by decide) e3 rfl rfl ?_
 rw [b3,c3_cut]
 by_cases hf:fewP P.length L.length es.length
 case neg=>simp only [n3,r3,hdC,tlC,c3,netV_len,netV_0,netV_1,take_all,few_ok,decide_eq_false hf,awake38_on hA,SB,Nat.reduceLT,callee,aOp,ne_eq,Nat.reduceEqDiff,aBin,aUn,if_true,if_false,reduceCtorEq,frame0,place,notTuple,Nat.reduceAdd,Nat.reduceLeDiff,resVal,dite_true,dite_false,Int.reduceEq,Int.reduceLT,Int.reduceLE]
 by_cases hk60:(60:Int)<(ks.length:Int)
 ·simp only [n3,r3,hdC,tlC,c3,netV_len,netV_0,netV_1,take_all,few_ok,decide_eq_true hf,eq_true hk60,awake38_on hA,SB,Nat.reduceLT,callee,aOp,ne_eq,Nat.reduceEqDiff,aBin,aUn,if_true,if_false,reduceCtorEq,frame0,place,notTuple,Nat.reduceAdd,Nat.reduceLeDiff,resVal,dite_true,dite_false,Int.reduceEq,Int.reduceLT,Int.reduceLE]
 unfold fewP at hf
 simp only [n3,r3,hdC,tlC,c3,netV_len,netV_0,netV_1,take_all,few_ok,decide_eq_true (show fewP P.length L.length es.length from hf),eq_false hk60,SB,Nat.reduceLT,callee,aOp,ne_eq,Nat.reduceEqDiff,aBin,aUn,if_true,if_false,reduceCtorEq,frame0,place,notTuple,Nat.reduceAdd,Nat.reduceLeDiff,resVal,dite_true,dite_false,Int.reduceEq,Int.reduceLT,Int.reduceLE]
 refine lentnet_ok (hn.app _) (by omega) (by omega) (by simp) fun G1 b1 b2 hC1 hL1 hb1 hb2=>?_
 have hC1':Chg [] H G1:=hC1.pre
 have hl1:=hC1.len
 simp at hl1 hb1 hb2
 have kn:hget G1 H.length=.cells false (netV pp P.length cp pl L.length cl):=hC1.cells (by rw [hget_new0];rfl) (by simp)
 refine Ret_pad ?_
 simp only [n3,r3,SB,Nat.reduceLT,callee,aOp,ne_eq,Nat.reduceEqDiff,aBin,aUn,if_true,if_false,reduceCtorEq,frame0,place,notTuple,Nat.reduceAdd,Nat.reduceLeDiff,resVal,dite_true,dite_false,Int.reduceEq,Int.reduceLT,Int.reduceLE]
 refine lentI_ok (((hC1'.sl hk (by simp))).app _) (by omega) (by simp;omega) fun G2 hk2 hC2=>?_
 rw [List.append_nil] at hk2 hC2
 have hl2:=hC2.len
 have hC2':Chg [] H G2:=hC1'.trans hC2
 have hk2l:=hget_alive hk2
 have knX2:=fun X=>(Ext.refl.app (X:=X)).cells (hC2.cells kn (by simp))
 have hHG2:H.length≤G2.length:=by omega
 have hb1l:=hget_alive hL1.i
 have hb2l:=hget_alive hL1.l
 have hL2:LentN G2 b1 b2 P L:=⟨hC2.cells hL1.i (by simp),hC2.cells hL1.l (by simp)⟩
 obtain ⟨be,ce',X,e38,sE0,hbe⟩:=clone_ev (lim:=H.length) (ce:=ce) (G:=G2++[.cells false (netV (some ⟨b1,0,none⟩) P.length (P.length+12) (some ⟨b2,0,none⟩) L.length (L.length+12))]) ((hC2'.sl hs (by simp)).app _) (by omega)
 simp only [List.append_assoc,List.singleton_append,List.length_append,List.length_singleton] at e38 sE0 hbe
 refine Ret_pad ?_
 simp only [n3,r3,setAll_full,hHG2,e38,netV_len,netV_0,netV_1,take_all,List.append_nil,SB,Nat.reduceLT,callee,aOp,ne_eq,Nat.reduceEqDiff,aBin,aUn,if_true,if_false,reduceCtorEq,frame0,place,notTuple,Nat.reduceAdd,Nat.reduceLeDiff,resVal,dite_true,dite_false,Int.reduceEq,Int.reduceLT,Int.reduceLE]
 generalize hnv:netV (some ⟨b1,0,none⟩) P.length (P.length+12) (some ⟨b2,0,none⟩) L.length (L.length+12)=nv at *
 generalize hG3:G2++Blk.cells false nv::Blk.cells false []::X=G3
 rw [hG3] at sE0 e38
 have hC3:Chg [] G2 G3:=by rw [←hG3];exact Chg.refl.app
 have k7:hget G3 G2.length=.cells false nv:=by rw [←hG3,hget_new0];rfl
 clear hG3 e38
 have hC3':Chg [] H G3:=hC2'.trans hC3
 have hL3:LentN G3 b1 b2 P L:=⟨hC3.cells hL2.i (by simp),hC3.cells hL2.l (by simp)⟩
 have hN3:=hL3.net hn
 have hl3:=hC3.len
 have hk7:=hget_alive k7
 have hkk3:=hC3.cells hk2 (by simp)
 have hnvA:nv.toArray=(netV (some ⟨b1,0,none⟩) P.length (P.length+12) (some ⟨b2,0,none⟩) L.length (L.length+12)).toArray:=by rw [hnv]
 rw [hnvA]
 refine best_any hN3 (by omega) sE0 (by omega) fun G4 q cq r cr B S x hC4 hq4 hr4 hBl hSl hgood hbad=>?_
 rw [←hnvA]
 have hl4:=hC4.len
 have hN4:=hN3.ext hC4.ext
 have sE4:=hC4.ext.sl sE0
 have k74:=hC4.cells k7 (by simp)
 have k74X:=fun X=>(Ext.refl.app (X:=X)).cells k74
 have hkk4:=hC4.cells hkk3 (by simp)
 have sK4:Sl G4 encI 1 (some ⟨G1.length,0,none⟩) ks:=(Sl.row encI_len hkk4).pre encI_len
 have enl:nv.length=2:=by rw [←hnv];rfl
 have hHG4:H.length≤G4.length:=by omega
 refine Ret_pad ?_
 simp only [n3,r3,setAll_full,hHG4,k74X,enl,take_all,List.append_nil,SB,Nat.reduceLT,callee,aOp,ne_eq,Nat.reduceEqDiff,aBin,aUn,if_true,if_false,reduceCtorEq,frame0,place,notTuple,Nat.reduceAdd,Nat.reduceLeDiff,resVal,dite_true,dite_false,Int.reduceEq,Int.reduceLT,Int.reduceLE]
 rw [hnvA]
 refine cost_any (hN4.app _) (by simp;omega) (sE4.app _) (by omega) (sK4.app _) (by omega) (fun h=>by cases h) fun G5 q' cq' r' cr' B' S' x' hC5 hq5 hr5 hBl' hSl' hgood' hbad'=>?_
 rw [←hnvA]
 have hC5':=hC5.pre
 have hl5:=hC5'.len
 have k10:=hC5.cells hget_new0 (by simp)
 have hC35:=hC4.trans hC5'
 have hC15:Chg [] G2 G5:=hC3.trans hC35
 have hCH5:Chg [] H G5:=hC3'.trans hC35
 have kn5:=hC15.cells (hC2.cells kn (by simp)) (by simp)
 have kn5X:=fun X=>(Ext.refl.app (X:=X)).cells kn5
 have hHG5:H.length≤G5.length:=by omega
 have hk10:=hget_alive k10
 refine Ret_pad ?_
 simp only [n3,r3,setAll_full,hHG5,kn5X,netV_len,netV_0,netV_1,take_all,List.append_nil,SB,Nat.reduceLT,callee,aOp,ne_eq,Nat.reduceEqDiff,aBin,aUn,if_true,if_false,reduceCtorEq,frame0,place,notTuple,Nat.reduceAdd,Nat.reduceLeDiff,resVal,dite_true,dite_false,Int.reduceEq,Int.reduceLT,Int.reduceLE]
 refine given_ok ((hCH5.sl hs (by simp)).app _) (by omega) (by simp) fun G6 qg cg hC6 hOg=>?_
 have hC6':=hC6.pre
 have hl6:=hC6'.len
 have k12:=hC6.cells hget_new0 (by simp)
 have hk12:=hget_alive k12
 have hCH6:=hCH5.trans hC6'
 have sg:=hOg.sl encE_len
 have hre:=fun X (mp:Bool) (lim:Nat) (Q:Value→Heap→Prop)=>rerr_ok (mp:=mp) (lim:=lim) (cp:=cp) (cl:=cl) (ce:=cg) (Q:=Q) ((hn.ext hCH6.ext).app X) (sg.app X) (by omega)
 refine Ret_pad ?_
 simp only [n3,r3,hre,SB,Nat.reduceLT,callee,aOp,ne_eq,Nat.reduceEqDiff,aBin,aUn,if_true,if_false,reduceCtorEq,frame0,place,notTuple,Nat.reduceAdd,Nat.reduceLeDiff,resVal,dite_true,dite_false,Int.reduceEq,Int.reduceLT,Int.reduceLE]
 have hlt1:G1.length<G2.length:=hk2l
 have hTS:TS H G6 G2.length G4.length G5.length G1.length b1 b2 be pp pl pe pk cp cl P L es ks q r q' r' cq cr cq' cr' B S x B' S' x':=
  ⟨hn,hs,hk,hCH6,hC6'.cells kn5 (by simp),by rw [hnv];exact hC6'.cells (hC5'.cells k74 (by simp)) (by simp),⟨hC6'.cells (hC5'.cells (hC4.cells hL3.i (by simp)) (by simp)) (by simp),hC6'.cells (hC5'.cells (hC4.cells hL3.l (by simp)) (by simp)) (by simp)⟩,
   hn.ext hCH6.ext,hC6'.ext.sl (hC5'.ext.sl sE4),hCH6.sl hs (by simp),hCH6.sl hk (by simp),hC6'.cells (hC5'.cells hkk4 (by simp)) (by simp),hC6'.cells k10 (by simp),k12,
   hC6'.ext.sl (hC5'.ext.sl hq4.1),hC6'.ext.sl (hC5'.ext.sl hr4.1),hC6'.ext.sl hq5.1,hC6'.ext.sl hr5.1,
   fun a ha=>by have:=hq4.2 a ha;omega,fun a ha=>by have:=hr4.2 a ha;omega,fun a ha=>by have:=hq5.2 a ha;simp at this;omega,fun a ha=>by have:=hr5.2 a ha;simp at this;omega,by omega,by omega,by omega⟩
 refine br_ok (ck:=ck) (ce':=ce') (hTS.ext Ext.refl.app) hf (by omega) hce hBl hSl hBl' hSl' hgood hbad hgood' hbad' (by simp only [FB,Nat.reduceEqDiff]) (by simp only [FB,Nat.reduceEqDiff]) (by simp only [FB,Nat.reduceEqDiff]) (by simp only [FB,Nat.reduceEqDiff]) (by simp only [FB,Nat.reduceEqDiff]) (by simp only [FB,Nat.reduceEqDiff]) (by simp only [FB,Nat.reduceEqDiff]) (by simp only [FB,Nat.reduceEqDiff]) (by simp only [FB,Nat.reduceEqDiff]) (by simp only [FB,Nat.reduceEqDiff]) (by simp only [FB,Nat.reduceEqDiff]) hA
end Go.Proofs.Ytjmmhkodgileiab.Fn

