/-
  Joined texts, 8 of 10. A part of the claim that the last text states.
-/
import Derived.Test.YtfedceicnjnefacPA7
namespace Go.Proofs.Ytfedceicnjnefac.Fn
open Go.AM Go.AM.Sym Go.Sort
set_option maxRecDepth 100000
set_option linter.unusedVariables false
set_option linter.unusedSimpArgs false
set_option maxHeartbeats 4000000
theorem brk_ok [OB] {G X:Heap} {B lim cap n:Nat} {p:Option Addr} {c:Go.Net.Leg→Go.Net.Leg→Int} {cl:FuncId} {cs:List Value} (hp:p=some ⟨B,0,none⟩) (hB:B<G.length) (hl:lim≤B) (hn2:n<2 ^ 61) (hc:∀(mp:Bool) (lim:Nat) (x y:Go.Net.Leg) (H:Heap) (Q:Value→Heap→Prop),CallR E mp lim cl (.agg (encL x).toArray::.agg (encL y).toArray::cs) H Q=Q (.int .i64 (c x y)) H) {d:Array Go.Net.Leg} {a b:Nat} (hd:d.size=n) (hb:b≤n) (hab:a+12<b) (hn3:n<65536) :
  ∃d' s,d'.size=n∧PermIn a b d d'∧∀Q,CallR E false lim 67 [.slice p n cap,.int .i64 (a:Int),.int .i64 (b:Int),.func (.func cl) #[] cs.toArray] (DH encL G B d++X) Q=Q (.tuple #[]) (DH encL G B d'++(X++[.cells false [.int .u64 s]])):=by
 have key:CallR E false lim 67 [.slice p n cap,.int .i64 (a:Int),.int .i64 (b:Int),.func (.func cl) #[] cs.toArray] (DH encL G B d++X) fun v H'=>∃d' s,d'.size=n∧PermIn a b d d'∧v=.tuple #[]∧H'=DH encL G B d'++(X++[.cells false [.int .u64 s]]):=by
  rw [CallR_run (E:=E) (g:=67) (af:=a67) (by simp [E,orc]) e67 rfl rfl]
  rw [b67,c67]
  have ld:=fun (i:Nat) (X:Heap) (d:Array Go.Net.Leg) (hd:d.size=n) (hi:i<n)=>DH_ld (X:=X) (d:=d) (i:=i) hp hB encL_len (by omega);have st:=fun (i:Nat) (X:Heap) (d:Array Go.Net.Leg) (hd:d.size=n) (hi:i<n) (y:Go.Net.Leg)=>DH_st (X:=X) (d:=d) (i:=i) (y:=y) hp hB hl encL_len (by omega);have ix:=fun (i:Nat) (hi:i<n) c (k:IntKind) (H:Heap)=>DH_idx (e:=8) (i:=i) (n:=n) (c:=c) (k:=k) (H:=H) hp hi
  have hlG:lim≤G.length+X.length:=by omega
  obtain ⟨l,rfl⟩:∃l,b=a+l:=⟨b-a,by omega⟩
  obtain ⟨m,hm0,hm1,hnpt⟩:=npt_ok (x:=l) (by omega) (by omega)
  have hw0:IntKind.i64.wrap (((a+l:Nat):Int)-(a:Int))=(l:Int):=wrap_int (by omega) (by omega)
  have hq:(l:Int).tdiv 4=((l / 4:Nat):Int):=tdiv_nat (b:=4)
  have hw1:IntKind.i64.wrap ((l / 4:Nat):Int)=((l / 4:Nat):Int):=wrap_int rfl (by omega)
  have hw3:IntKind.i64.wrap (((l / 4:Nat):Int)*2)=((l / 4*2:Nat):Int):=wrap_int (by omega) (by omega)
  have hw6:IntKind.i64.wrap ((a:Int)+((l / 4*2:Nat):Int))=((a+l / 4*2:Nat):Int):=wrap_int (by omega) (by omega)
  have hw7:IntKind.i64.wrap (((a+l / 4*2:Nat):Int)-1)=((a+l / 4*2-1:Nat):Int):=wrap_int (by omega) (by omega)
  have hw8:IntKind.i64.wrap (((a+l / 4*2:Nat):Int)+1)=((a+l / 4*2+1:Nat):Int):=wrap_int (by omega) (by omega)
  have hwm:IntKind.u64.wrap ((m:Int)-1)=((m-1:Nat):Int):=by rw [wrap64];omega
  have c8:(8:Int)≤(l:Int):=by omega
  simp only [n67,r67,hw0,hq,hw1,hw3,hw6,hw7,c8,hnpt,cnt_get,cnt_set,DH_len,hlG,SB,Nat.reduceLT,callee,aOp,ne_eq,Nat.reduceEqDiff,aBin,aUn,if_true,if_false,reduceCtorEq,frame0,place,notTuple,Nat.reduceAdd,Nat.reduceLeDiff,resVal,dite_true,dite_false,Int.reduceEq,Int.reduceLT,Int.reduceLE]
  refine Ret_rounds (S:=Nat×Array Go.Net.Leg×Int) (fun s=>a+l+5-s.1) (fun s fr H=>a<s.1∧s.1≤a+l / 4*2+2∧fr 0=.slice p n cap∧fr 1=.int .i64 (a:Int)∧fr 8=.int .i64 (l:Int)∧fr 9=.pointer (some ⟨G.length+X.length,0,none⟩)∧fr 10=.int .u64 (m:Int)∧fr 11=.int .i64 (s.1:Int)∧
   H=DH encL G B s.2.1++(X++[.cells false [.int .u64 s.2.2]])∧s.2.1.size=n∧PermIn a (a+l) d s.2.1) (a+l / 4*2-1,d,IntKind.u64.wrap (l:Int)) ⟨by simp only;omega,by simp only;omega,(by simp only [FB,Nat.reduceEqDiff]),(by simp only [FB,Nat.reduceEqDiff]),(by simp only [FB,Nat.reduceEqDiff]),(by simp only [FB,Nat.reduceEqDiff]),(by simp only [FB,Nat.reduceEqDiff]),(by simp only [FB,Nat.reduceEqDiff]),rfl,hd,permIn_refl _ _ _⟩ ?_
  rintro ⟨i,d1,s⟩ fr H ⟨h1,h2,g0,g1,g8,g9,g10,g11,rfl,hd1,hP⟩ hN
  simp only at h1 h2 g11 hd1 hP
  rw [Ret_code l67_1.eq_1]
  by_cases c1:i≤a+(l / 4*2+1)
  ·obtain ⟨s',_,hx⟩:=xor_ok (X:=X) (d:=d1) (s:=s) (enc:=encL) hl hB
   have hA:=and_le (a:=s') (b:=((m-1:Nat):Int)) (by omega)
   generalize hr:IntKind.u64.wrap ((BitVec.ofInt IntKind.u64.bits s' &&& BitVec.ofInt IntKind.u64.bits ((m-1:Nat):Int)).toNat:Int)=r at hA
   obtain ⟨r',rfl⟩:∃r':Nat,r=(r':Int):=⟨r.toNat,by omega⟩
   have hwr:IntKind.i64.wrap (r':Int)=(r':Int):=wrap_int rfl (by omega)
   have hwi:IntKind.i64.wrap ((i:Int)+1)=((i+1:Nat):Int):=wrap_nat (by omega)
   have i1:i<n:=by omega
   by_cases c2:l≤r'
   ·have hw9:IntKind.i64.wrap ((r':Int)-(l:Int))=((r'-l:Nat):Int):=wrap_int (by omega) (by omega)
    have hw10:IntKind.i64.wrap ((a:Int)+((r'-l:Nat):Int))=((a+(r'-l):Nat):Int):=wrap_int (by omega) (by omega)
    have i2:a+(r'-l)<n:=by omega
    simp only [n67,r67,g0,g1,g8,g9,g10,g11,hw0,hq,hw1,hw3,hw6,hw8,c1,hx,hwm,hr,hwr,c2,hw9,hw10,ld,st,ix,List.append_nil,Array.size_setIfInBounds,encL_len,hd1,i1,i2,hwi,SB,Nat.reduceLT,callee,aOp,ne_eq,Nat.reduceEqDiff,aBin,aUn,if_true,if_false,reduceCtorEq,frame0,place,notTuple,Nat.reduceAdd,Nat.reduceLeDiff,resVal,dite_true,dite_false,Int.reduceEq,Int.reduceLT,Int.reduceLE]
    exact hN (i+1,swp d1 i (a+(r'-l)),s') _ _ ⟨by simp only;omega,by simp only;omega,(by simp only [g0,FB,Nat.reduceEqDiff]),(by simp only [g1,FB,Nat.reduceEqDiff]),(by simp only [g8,FB,Nat.reduceEqDiff]),(by simp only [g9,FB,Nat.reduceEqDiff]),(by simp only [g10,FB,Nat.reduceEqDiff]),(by simp only [FB,Nat.reduceEqDiff]),by simp [swp],by simp [swp,hd1],permIn_trans _ _ _ _ _ hP (swp_permIn _ _ _ _ _ (by omega) (by omega) (by omega) (by omega) (by omega))⟩ (by simp only;omega)
   ·have hw10:IntKind.i64.wrap ((a:Int)+(r':Int))=((a+r':Nat):Int):=wrap_int (by omega) (by omega)
    have i2:a+r'<n:=by omega
    simp only [n67,r67,g0,g1,g8,g9,g10,g11,hw0,hq,hw1,hw3,hw6,hw8,c1,hx,hwm,hr,hwr,c2,hw10,ld,st,ix,List.append_nil,Array.size_setIfInBounds,encL_len,hd1,i1,i2,hwi,SB,Nat.reduceLT,callee,aOp,ne_eq,Nat.reduceEqDiff,aBin,aUn,if_true,if_false,reduceCtorEq,frame0,place,notTuple,Nat.reduceAdd,Nat.reduceLeDiff,resVal,dite_true,dite_false,Int.reduceEq,Int.reduceLT,Int.reduceLE]
    exact hN (i+1,swp d1 i (a+r'),s') _ _ ⟨by simp only;omega,by simp only;omega,(by simp only [g0,FB,Nat.reduceEqDiff]),(by simp only [g1,FB,Nat.reduceEqDiff]),(by simp only [g8,FB,Nat.reduceEqDiff]),(by simp only [g9,FB,Nat.reduceEqDiff]),(by simp only [g10,FB,Nat.reduceEqDiff]),(by simp only [FB,Nat.reduceEqDiff]),by simp [swp],by simp [swp,hd1],permIn_trans _ _ _ _ _ hP (swp_permIn _ _ _ _ _ (by omega) (by omega) (by omega) (by omega) (by omega))⟩ (by simp only;omega)
  ·clear hN
   simp only [n67,r67,g0,g1,g8,g9,g10,g11,hw0,hq,hw1,hw3,hw6,hw8,c1,SB,Nat.reduceLT,callee,aOp,ne_eq,Nat.reduceEqDiff,aBin,aUn,if_true,if_false,reduceCtorEq,frame0,place,notTuple,Nat.reduceAdd,Nat.reduceLeDiff,resVal,dite_true,dite_false,Int.reduceEq,Int.reduceLT,Int.reduceLE]
   exact ⟨d1,s,hd1,hP,rfl⟩
 obtain ⟨k,v,H',hx,d',s,h1,h2,rfl,rfl⟩:=CallR.one key
 exact ⟨d',s,h1,h2,fun Q=>CallR.det hx⟩
def tlc:ACode→ACode
 | .seq _ b=>b
 | x=>x
def unb:ACode→ACode
 | .block _ b=>b
 | x=>x
def q1:ACode:=tlc (tlc (tlc (tlc (unb l63_1))))
def q2:ACode:=tlc (tlc q1)
def q3:ACode:=tlc q2
def hdc:ACode→ACode
 | .seq a _=>a
 | x=>x
def p1:ACode:=hdc (unb l63_1)
def p2:ACode:=hdc (tlc (unb l63_1))
def p3:ACode:=hdc (tlc (tlc (unb l63_1)))
def p4:ACode:=hdc (tlc (tlc (tlc (unb l63_1))))
theorem body_eq:l63_1=.block 1 (.seq p1 (.seq p2 (.seq p3 (.seq p4 q1)))):=rfl
def p5:ACode:=hdc q2
theorem q2_eq:q2=.seq p5 q3:=rfl
def p6:ACode:=hdc q1
def p7:ACode:=hdc (tlc q1)
theorem q1_eq:q1=.seq p6 (.seq p7 q2):=rfl
def Done (G:Heap) (B n:Nat) (c:Go.Net.Leg→Go.Net.Leg→Int) (a b:Nat) (d:Array Go.Net.Leg) (X:Heap) (v:Value) (H':Heap):Prop:=
 ∃d' Y,d'.size=n∧PermIn a b d d'∧SortedIn (ltC c) a b d'∧v=.tuple #[]∧H'=DH encL G B d'++(X++Y)
theorem Done.perm [OB] {G:Heap} {B n:Nat} {c:Go.Net.Leg→Go.Net.Leg→Int} {a b:Nat} {d d1:Array Go.Net.Leg} {X Y:Heap} {v:Value} {H':Heap} (h:Done G B n c a b d1 (X++Y) v H') (hP:PermIn a b d d1):Done G B n c a b d X v H':=by
 obtain ⟨d',Z,h1,h2,h3,h4,h5⟩:=h
 exact ⟨d',Y++Z,h1,permIn_trans _ _ _ _ _ hP h2,h3,h4,by rw [h5];simp⟩
theorem pdq3 [OB] {G X:Heap} {B lim cap n:Nat} {p:Option Addr} {c:Go.Net.Leg→Go.Net.Leg→Int} {cl:FuncId} {cs:List Value} (hp:p=some ⟨B,0,none⟩) (hB:B<G.length) (hl:lim≤B) (hn2:n<2 ^ 61) (hc:∀(mp:Bool) (lim:Nat) (x y:Go.Net.Leg) (H:Heap) (Q:Value→Heap→Prop),CallR E mp lim cl (.agg (encL x).toArray::.agg (encL y).toArray::cs) H Q=Q (.int .i64 (c x y)) H) (hS:SWO (ltC c)) {d:Array Go.Net.Leg} {a b v lm m:Nat} {wb wp:Bool} {fr:Nat→Value} {L:List AItem} (hT:∀(a b lm:Nat) (wb wp:Bool) (d:Array Go.Net.Leg) (X:Heap) (fr:Nat→Value),b-a<m→a≤b→b≤n→d.size=n→Below (ltC c) a b d→lm<2 ^ 60→fr 0=.slice p n cap→fr 1=.int .i64 (a:Int)→fr 2=.int .i64 (b:Int)→fr 3=.int .i64 (lm:Int)→fr 4=.func (.func cl) #[] cs.toArray→fr 10=.bool wb→fr 11=.bool wp→Ret E a63 lim L fr (DH encL G B d++X) (Done G B n c a b d X)) (hC:∀(a b lm:Nat) (d:Array Go.Net.Leg) (X:Heap),b-a<m→a≤b→b≤n→d.size=n→Below (ltC c) a b d→lm<2 ^ 60→∃d' Y,d'.size=n∧PermIn a b d d'∧SortedIn (ltC c) a b d'∧∀Q,CallR E false lim 63 [.slice p n cap,.int .i64 (a:Int),.int .i64 (b:Int),.int .i64 (lm:Int),.func (.func cl) #[] cs.toArray] (DH encL G B d++X) Q=Q (.tuple #[]) (DH encL G B d'++(X++Y))) (hm:b-a≤m) (hd:d.size=n) (hb:b≤n) (hv:a≤v∧v<b) (hlm:lm<2 ^ 60) (hBl:Below (ltC c) a b d) (g0:fr 0=.slice p n cap) (g1:fr 1=.int .i64 (a:Int)) (g2:fr 2=.int .i64 (b:Int)) (g3:fr 3=.int .i64 (lm:Int)) (g4:fr 4=.func (.func cl) #[] cs.toArray) (g10:fr 10=.bool wb) (g11:fr 11=.bool wp) (g12:fr 12=.int .i64 ((b-a:Nat):Int)) (g13:fr 13=.int .i64 (v:Int)) :
  Ret E a63 lim (.code q3::.inBlock 1::L) fr (DH encL G B d++X) (Done G B n c a b d X):=by
 simp only [q3,q2,q1,tlc,unb,l63_1]
 have ld:=fun (i:Nat) (X:Heap) (d:Array Go.Net.Leg) (hd:d.size=n) (hi:i<n)=>DH_ld (X:=X) (d:=d) (i:=i) hp hB encL_len (by omega);have st:=fun (i:Nat) (X:Heap) (d:Array Go.Net.Leg) (hd:d.size=n) (hi:i<n) (y:Go.Net.Leg)=>DH_st (X:=X) (d:=d) (i:=i) (y:=y) hp hB hl encL_len (by omega);have ix:=fun (i:Nat) (hi:i<n) c (k:IntKind) (H:Heap)=>DH_idx (e:=8) (i:=i) (n:=n) (c:=c) (k:=k) (H:=H) hp hi
 have hw0:0<a→IntKind.i64.wrap ((a:Int)-1)=((a-1:Nat):Int):=fun h=>wrap_pred h (by omega)
 have i1:v<n:=by omega
 by_cases c1:0<a∧¬c d[a-1]! d[v]!<0
 ·obtain ⟨c1,c2⟩:=c1
  have i2:a-1<n:=by omega
  have hpe:=fun Q=>peq_ok (X:=X) (cap:=cap) (a:=a) (b:=b) (v:=v) (Q:=Q) hp hB hl hn2 hc hd hb hv.1 hv.2
  generalize hx:partitionEqual (ltC c) d a b v=r at hpe
  obtain ⟨mid,d4⟩:=r
  obtain ⟨r1,r2,r3,r4,r5⟩:=round_eq hS (partitionEqual_holds (ltC c)) c1 hv.1 hv.2 (by omega) hBl (by simp [ltC,c2]) hx
  have hw0':=hw0 c1
  simp only [n63,r63,g0,g1,g2,g3,g4,g10,g11,g12,g13,c1,c2,hw0',ld,st,ix,List.append_nil,Array.size_setIfInBounds,encL_len,hd,i1,i2,hc,hpe,SB,Nat.reduceLT,callee,aOp,ne_eq,Nat.reduceEqDiff,aBin,aUn,if_true,if_false,reduceCtorEq,frame0,place,notTuple,Nat.reduceAdd,Nat.reduceLeDiff,resVal,dite_true,dite_false,Int.reduceEq,Int.reduceLT,Int.reduceLE]
  exact (hT mid b lm wb wp d4 X _ (by omega) r2 hb (by omega) r4 hlm (by simp only [g0,FB,Nat.reduceEqDiff]) (by simp only [FB,Nat.reduceEqDiff]) (by simp only [g2,FB,Nat.reduceEqDiff]) (by simp only [g3,FB,Nat.reduceEqDiff]) (by simp only [g4,FB,Nat.reduceEqDiff]) (by simp only [g10,FB,Nat.reduceEqDiff]) (by simp only [g11,FB,Nat.reduceEqDiff])).mono fun v H' ⟨d',Y,s1,s2,s3,s4,s5⟩=>⟨d',Y,s1,(r5 d' s2 s3).1,(r5 d' s2 s3).2,s4,s5⟩
 ·have hpt:=fun Q=>part_sort (X:=X) (cap:=cap) (a:=a) (b:=b) (v:=v) (Q:=Q) hp hB hl hn2 hc hd hb hv.1 hv.2
  generalize hx:Sort.partition (ltC c) d a b v=r at hpt
  obtain ⟨mid,ap,d4⟩:=r
  obtain ⟨r1,r2,r3,r4,r5,r6,r7⟩:=round_part hS (partition_holds (ltC c)) hv.1 hv.2 (by omega) hBl hx
  simp only at hpt
  have hw1:IntKind.i64.wrap ((mid:Int)-(a:Int))=((mid-a:Nat):Int):=wrap_int (by omega) (by omega)
  have hw2:IntKind.i64.wrap ((b:Int)-(mid:Int))=((b-mid:Nat):Int):=wrap_int (by omega) (by omega)
  have hw3:IntKind.i64.wrap ((mid:Int)+1)=((mid+1:Nat):Int):=wrap_nat (by omega)
  have hq:((b-a:Nat):Int).tdiv 8=(((b-a) / 8:Nat):Int):=tdiv_nat (b:=8)
  have hw4:IntKind.i64.wrap (((b-a) / 8:Nat):Int)=(((b-a) / 8:Nat):Int):=wrap_int rfl (by omega)
  have hor:(0<a∧c d[a-1]! d[v]!<0)∨¬0<a:=by
   by_cases q:0<a
   ·exact .inl ⟨q,Classical.byContradiction fun q2=>c1 ⟨q,q2⟩⟩
   ·exact .inr q
  by_cases c5:mid-a<b-mid
  ·obtain ⟨dL,Y,l1,l2,l3,l4⟩:=hC a mid lm d4 X (by omega) r1 (by omega) (by omega) r4 hlm
   obtain ⟨k1,k2⟩:=r6 dL l2 l3
   rcases hor with ⟨c2,c3⟩ | c2
   ·have hw0':=hw0 c2
    have i2:a-1<n:=by omega
    simp only [n63,r63,g0,g1,g2,g3,g4,g10,g11,g12,g13,c2,c3,hw0',ld,st,ix,List.append_nil,Array.size_setIfInBounds,encL_len,hd,i1,i2,hc,hpt,hw1,hw2,hw3,hq,hw4,c5,l4,SB,Nat.reduceLT,callee,aOp,ne_eq,Nat.reduceEqDiff,aBin,aUn,if_true,if_false,reduceCtorEq,frame0,place,notTuple,Nat.reduceAdd,Nat.reduceLeDiff,resVal,dite_true,dite_false,Int.reduceEq,Int.reduceLT,Int.reduceLE]
    exact (hT (mid+1) b lm (decide ((b-a) / 8≤mid-a)) ap dL (X++Y) _ (by omega) (by omega) hb l1 k1 hlm (by simp only [g0,FB,Nat.reduceEqDiff]) (by simp only [FB,Nat.reduceEqDiff]) (by simp only [g2,FB,Nat.reduceEqDiff]) (by simp only [g3,FB,Nat.reduceEqDiff]) (by simp only [g4,FB,Nat.reduceEqDiff]) (by simp only [FB,Nat.reduceEqDiff]) (by simp only [FB,Nat.reduceEqDiff])).mono fun v H' ⟨d',Z,s1,s2,s3,s4,s5⟩=>⟨d',Y++Z,s1,(k2 d' s2 s3).1,(k2 d' s2 s3).2,s4,by rw [s5];simp⟩
   ·simp only [n63,r63,g0,g1,g2,g3,g4,g10,g11,g12,g13,c2,ld,st,ix,List.append_nil,Array.size_setIfInBounds,encL_len,hd,i1,hc,hpt,hw1,hw2,hw3,hq,hw4,c5,l4,SB,Nat.reduceLT,callee,aOp,ne_eq,Nat.reduceEqDiff,aBin,aUn,if_true,if_false,reduceCtorEq,frame0,place,notTuple,Nat.reduceAdd,Nat.reduceLeDiff,resVal,dite_true,dite_false,Int.reduceEq,Int.reduceLT,Int.reduceLE]
    exact (hT (mid+1) b lm (decide ((b-a) / 8≤mid-a)) ap dL (X++Y) _ (by omega) (by omega) hb l1 k1 hlm (by simp only [g0,FB,Nat.reduceEqDiff]) (by simp only [FB,Nat.reduceEqDiff]) (by simp only [g2,FB,Nat.reduceEqDiff]) (by simp only [g3,FB,Nat.reduceEqDiff]) (by simp only [g4,FB,Nat.reduceEqDiff]) (by simp only [FB,Nat.reduceEqDiff]) (by simp only [FB,Nat.reduceEqDiff])).mono fun v H' ⟨d',Z,s1,s2,s3,s4,s5⟩=>⟨d',Y++Z,s1,(k2 d' s2 s3).1,(k2 d' s2 s3).2,s4,by rw [s5];simp⟩
  ·obtain ⟨dL,Y,l1,l2,l3,l4⟩:=hC (mid+1) b lm d4 X (by omega) (by omega) hb (by omega) r5 hlm
   obtain ⟨k1,k2⟩:=r7 dL l2 l3
   rcases hor with ⟨c2,c3⟩ | c2
   ·have hw0':=hw0 c2
    have i2:a-1<n:=by omega
    simp only [n63,r63,g0,g1,g2,g3,g4,g10,g11,g12,g13,c2,c3,hw0',ld,st,ix,List.append_nil,Array.size_setIfInBounds,encL_len,hd,i1,i2,hc,hpt,hw1,hw2,hw3,hq,hw4,c5,l4,SB,Nat.reduceLT,callee,aOp,ne_eq,Nat.reduceEqDiff,aBin,aUn,if_true,if_false,reduceCtorEq,frame0,place,notTuple,Nat.reduceAdd,Nat.reduceLeDiff,resVal,dite_true,dite_false,Int.reduceEq,Int.reduceLT,Int.reduceLE]
    exact (hT a mid lm (decide ((b-a) / 8≤b-mid)) ap dL (X++Y) _ (by omega) r1 (by omega) l1 k1 hlm (by simp only [g0,FB,Nat.reduceEqDiff]) (by simp only [g1,FB,Nat.reduceEqDiff]) (by simp only [FB,Nat.reduceEqDiff]) (by simp only [g3,FB,Nat.reduceEqDiff]) (by simp only [g4,FB,Nat.reduceEqDiff]) (by simp only [FB,Nat.reduceEqDiff]) (by simp only [FB,Nat.reduceEqDiff])).mono fun v H' ⟨d',Z,s1,s2,s3,s4,s5⟩=>⟨d',Y++Z,s1,(k2 d' s2 s3).1,(k2 d' s2 s3).2,s4,by rw [s5];simp⟩
   ·simp only [n63,r63,g0,g1,g2,g3,g4,g10,g11,g12,g13,c2,ld,st,ix,List.append_nil,Array.size_setIfInBounds,encL_len,hd,i1,hc,hpt,hw1,hw2,hw3,hq,hw4,c5,l4,SB,Nat.reduceLT,callee,aOp,ne_eq,Nat.reduceEqDiff,aBin,aUn,if_true,if_false,reduceCtorEq,frame0,place,notTuple,Nat.reduceAdd,Nat.reduceLeDiff,resVal,dite_true,dite_false,Int.reduceEq,Int.reduceLT,Int.reduceLE]
    exact (hT a mid lm (decide ((b-a) / 8≤b-mid)) ap dL (X++Y) _ (by omega) r1 (by omega) l1 k1 hlm (by simp only [g0,FB,Nat.reduceEqDiff]) (by simp only [g1,FB,Nat.reduceEqDiff]) (by simp only [FB,Nat.reduceEqDiff]) (by simp only [g3,FB,Nat.reduceEqDiff]) (by simp only [g4,FB,Nat.reduceEqDiff]) (by simp only [FB,Nat.reduceEqDiff]) (by simp only [FB,Nat.reduceEqDiff])).mono fun v H' ⟨d',Z,s1,s2,s3,s4,s5⟩=>⟨d',Y++Z,s1,(k2 d' s2 s3).1,(k2 d' s2 s3).2,s4,by rw [s5];simp⟩
theorem pdq2 [OB] {G X:Heap} {B lim cap n:Nat} {p:Option Addr} {c:Go.Net.Leg→Go.Net.Leg→Int} {cl:FuncId} {cs:List Value} (hp:p=some ⟨B,0,none⟩) (hB:B<G.length) (hl:lim≤B) (hn2:n<2 ^ 61) (hc:∀(mp:Bool) (lim:Nat) (x y:Go.Net.Leg) (H:Heap) (Q:Value→Heap→Prop),CallR E mp lim cl (.agg (encL x).toArray::.agg (encL y).toArray::cs) H Q=Q (.int .i64 (c x y)) H) (hS:SWO (ltC c)) {d:Array Go.Net.Leg} {a b v h lm m:Nat} {wb wp:Bool} {fr:Nat→Value} {L:List AItem} (hT:∀(a b lm:Nat) (wb wp:Bool) (d:Array Go.Net.Leg) (X:Heap) (fr:Nat→Value),b-a<m→a≤b→b≤n→d.size=n→Below (ltC c) a b d→lm<2 ^ 60→fr 0=.slice p n cap→fr 1=.int .i64 (a:Int)→fr 2=.int .i64 (b:Int)→fr 3=.int .i64 (lm:Int)→fr 4=.func (.func cl) #[] cs.toArray→fr 10=.bool wb→fr 11=.bool wp→Ret E a63 lim L fr (DH encL G B d++X) (Done G B n c a b d X)) (hC:∀(a b lm:Nat) (d:Array Go.Net.Leg) (X:Heap),b-a<m→a≤b→b≤n→d.size=n→Below (ltC c) a b d→lm<2 ^ 60→∃d' Y,d'.size=n∧PermIn a b d d'∧SortedIn (ltC c) a b d'∧∀Q,CallR E false lim 63 [.slice p n cap,.int .i64 (a:Int),.int .i64 (b:Int),.int .i64 (lm:Int),.func (.func cl) #[] cs.toArray] (DH encL G B d++X) Q=Q (.tuple #[]) (DH encL G B d'++(X++Y))) (hm:b-a≤m) (hd:d.size=n) (hb:b≤n) (hv:a≤v∧v<b) (hlm:lm<2 ^ 60) (hh:h≤2) (hBl:Below (ltC c) a b d) (g0:fr 0=.slice p n cap) (g1:fr 1=.int .i64 (a:Int)) (g2:fr 2=.int .i64 (b:Int)) (g3:fr 3=.int .i64 (lm:Int)) (g4:fr 4=.func (.func cl) #[] cs.toArray) (g10:fr 10=.bool wb) (g11:fr 11=.bool wp) (g12:fr 12=.int .i64 ((b-a:Nat):Int)) (g13:fr 13=.int .i64 (v:Int)) (g14:fr 14=.int .i64 (h:Int)) :
  Ret E a63 lim (.code q2::.inBlock 1::L) fr (DH encL G B d++X) (Done G B n c a b d X):=by
 have h3:=fun d fr hd hBl=>pdq3 (X:=X) (d:=d) (fr:=fr) (a:=a) (b:=b) (v:=v) (lm:=lm) (wb:=wb) (wp:=wp) hp hB hl hn2 hc hS hT hC hm hd hb hv hlm hBl
 by_cases c1:wb=true∧wp=true∧h=1
 ·obtain ⟨rfl,rfl,rfl⟩:=c1
  have hpi:=fun Q=>pis_ok (X:=X) (cap:=cap) (a:=a) (b:=b) (Q:=Q) hp hB hl hn2 hc hd hb (by omega)
  have hps:=partialInsertionSort_holds hS d a b (by omega) (by omega) hBl
  generalize partialInsertionSort (ltC c) d a b=r at hpi hps
  obtain ⟨d3,fl⟩:=r
  obtain ⟨P3,S3⟩:=hps
  simp only at hpi P3 S3
  have g14':fr 14=.int .i64 1:=g14
  have hd3:d3.size=n:=by rw [P3.1];exact hd
  cases fl with
  | true=>
    rw [Ret_code q2_eq];simp only [p5,hdc,tlc,unb,q1,q2,l63_1]
    simp only [n63,r63,g0,g1,g2,g3,g4,g10,g11,g12,g13,g14',hpi,SB,Nat.reduceLT,callee,aOp,ne_eq,Nat.reduceEqDiff,aBin,aUn,if_true,if_false,reduceCtorEq,frame0,place,notTuple,Nat.reduceAdd,Nat.reduceLeDiff,resVal,dite_true,dite_false,Int.reduceEq,Int.reduceLT,Int.reduceLE]
    exact ⟨d3,[],hd3,P3,S3 rfl,rfl,by simp⟩
  | false=>
    have hB3:=hBl.perm (by omega) P3
    have:=h3 d3
    rw [Ret_code q2_eq];simp only [p5,hdc,tlc,unb,q1,q2,l63_1]
    simp only [n63,r63,g0,g1,g2,g3,g4,g10,g11,g12,g13,g14',hpi,SB,Nat.reduceLT,callee,aOp,ne_eq,Nat.reduceEqDiff,aBin,aUn,if_true,if_false,reduceCtorEq,frame0,place,notTuple,Nat.reduceAdd,Nat.reduceLeDiff,resVal,dite_true,dite_false,Int.reduceEq,Int.reduceLT,Int.reduceLE]
    refine Ret.mono (h3 d3 _ hd3 hB3 (by simp only [g0,FB,Nat.reduceEqDiff]) (by simp only [g1,FB,Nat.reduceEqDiff]) (by simp only [g2,FB,Nat.reduceEqDiff]) (by simp only [g3,FB,Nat.reduceEqDiff]) (by simp only [g4,FB,Nat.reduceEqDiff]) (by simp only [g10,FB,Nat.reduceEqDiff]) (by simp only [g11,FB,Nat.reduceEqDiff]) (by simp only [g12,FB,Nat.reduceEqDiff]) (by simp only [g13,FB,Nat.reduceEqDiff])) fun v' H' hq=>?_
    exact Done.perm (Y:=[]) (by rw [List.append_nil];exact hq) P3
 ·have h3':=h3 d
  rw [Ret_code q2_eq];simp only [p5,hdc,tlc,unb,q1,q2,l63_1]
  cases wb with
  | false=>
    simp only [n63,r63,g0,g1,g2,g3,g4,g10,g11,g12,g13,g14,SB,Nat.reduceLT,callee,aOp,ne_eq,Nat.reduceEqDiff,aBin,aUn,if_true,if_false,reduceCtorEq,frame0,place,notTuple,Nat.reduceAdd,Nat.reduceLeDiff,resVal,dite_true,dite_false,Int.reduceEq,Int.reduceLT,Int.reduceLE]
    exact h3' _ hd hBl (by simp only [g0,FB,Nat.reduceEqDiff]) (by simp only [g1,FB,Nat.reduceEqDiff]) (by simp only [g2,FB,Nat.reduceEqDiff]) (by simp only [g3,FB,Nat.reduceEqDiff]) (by simp only [g4,FB,Nat.reduceEqDiff]) (by simp only [g10,FB,Nat.reduceEqDiff]) (by simp only [g11,FB,Nat.reduceEqDiff]) (by simp only [g12,FB,Nat.reduceEqDiff]) (by simp only [g13,FB,Nat.reduceEqDiff])
  | true=>
    cases wp with
    | false=>
      simp only [n63,r63,g0,g1,g2,g3,g4,g10,g11,g12,g13,g14,SB,Nat.reduceLT,callee,aOp,ne_eq,Nat.reduceEqDiff,aBin,aUn,if_true,if_false,reduceCtorEq,frame0,place,notTuple,Nat.reduceAdd,Nat.reduceLeDiff,resVal,dite_true,dite_false,Int.reduceEq,Int.reduceLT,Int.reduceLE]
      exact h3' _ hd hBl (by simp only [g0,FB,Nat.reduceEqDiff]) (by simp only [g1,FB,Nat.reduceEqDiff]) (by simp only [g2,FB,Nat.reduceEqDiff]) (by simp only [g3,FB,Nat.reduceEqDiff]) (by simp only [g4,FB,Nat.reduceEqDiff]) (by simp only [g10,FB,Nat.reduceEqDiff]) (by simp only [g11,FB,Nat.reduceEqDiff]) (by simp only [g12,FB,Nat.reduceEqDiff]) (by simp only [g13,FB,Nat.reduceEqDiff])
    | true=>
      have c2:¬(h:Int)=1:=fun q=>c1 ⟨rfl,rfl,by omega⟩
      simp only [n63,r63,g0,g1,g2,g3,g4,g10,g11,g12,g13,g14,c2,SB,Nat.reduceLT,callee,aOp,ne_eq,Nat.reduceEqDiff,aBin,aUn,if_true,if_false,reduceCtorEq,frame0,place,notTuple,Nat.reduceAdd,Nat.reduceLeDiff,resVal,dite_true,dite_false,Int.reduceEq,Int.reduceLT,Int.reduceLE]
      exact h3' _ hd hBl (by simp only [g0,FB,Nat.reduceEqDiff]) (by simp only [g1,FB,Nat.reduceEqDiff]) (by simp only [g2,FB,Nat.reduceEqDiff]) (by simp only [g3,FB,Nat.reduceEqDiff]) (by simp only [g4,FB,Nat.reduceEqDiff]) (by simp only [g10,FB,Nat.reduceEqDiff]) (by simp only [g11,FB,Nat.reduceEqDiff]) (by simp only [g12,FB,Nat.reduceEqDiff]) (by simp only [g13,FB,Nat.reduceEqDiff])
theorem pdq1 [OB] {G X:Heap} {B lim cap n:Nat} {p:Option Addr} {c:Go.Net.Leg→Go.Net.Leg→Int} {cl:FuncId} {cs:List Value} (hp:p=some ⟨B,0,none⟩) (hB:B<G.length) (hl:lim≤B) (hn2:n<2 ^ 61) (hc:∀(mp:Bool) (lim:Nat) (x y:Go.Net.Leg) (H:Heap) (Q:Value→Heap→Prop),CallR E mp lim cl (.agg (encL x).toArray::.agg (encL y).toArray::cs) H Q=Q (.int .i64 (c x y)) H) (hS:SWO (ltC c)) {d:Array Go.Net.Leg} {a b lm m:Nat} {wb wp:Bool} {fr:Nat→Value} {L:List AItem} (hT:∀(a b lm:Nat) (wb wp:Bool) (d:Array Go.Net.Leg) (X:Heap) (fr:Nat→Value),b-a<m→a≤b→b≤n→d.size=n→Below (ltC c) a b d→lm<2 ^ 60→fr 0=.slice p n cap→fr 1=.int .i64 (a:Int)→fr 2=.int .i64 (b:Int)→fr 3=.int .i64 (lm:Int)→fr 4=.func (.func cl) #[] cs.toArray→fr 10=.bool wb→fr 11=.bool wp→Ret E a63 lim L fr (DH encL G B d++X) (Done G B n c a b d X)) (hC:∀(a b lm:Nat) (d:Array Go.Net.Leg) (X:Heap),b-a<m→a≤b→b≤n→d.size=n→Below (ltC c) a b d→lm<2 ^ 60→∃d' Y,d'.size=n∧PermIn a b d d'∧SortedIn (ltC c) a b d'∧∀Q,CallR E false lim 63 [.slice p n cap,.int .i64 (a:Int),.int .i64 (b:Int),.int .i64 (lm:Int),.func (.func cl) #[] cs.toArray] (DH encL G B d++X) Q=Q (.tuple #[]) (DH encL G B d'++(X++Y))) (hm:b-a≤m) (hd:d.size=n) (hb:b≤n) (hab:a+12<b) (hlm:lm<2 ^ 60) (hBl:Below (ltC c) a b d) (g0:fr 0=.slice p n cap) (g1:fr 1=.int .i64 (a:Int)) (g2:fr 2=.int .i64 (b:Int)) (g3:fr 3=.int .i64 (lm:Int)) (g4:fr 4=.func (.func cl) #[] cs.toArray) (g10:fr 10=.bool wb) (g11:fr 11=.bool wp) (g12:fr 12=.int .i64 ((b-a:Nat):Int)) :
  Ret E a63 lim (.code q1::.inBlock 1::L) fr (DH encL G B d++X) (Done G B n c a b d X):=by
 obtain ⟨v,h,s,v1,v2,hh,hcho⟩:=cho_ok (X:=X) (cap:=cap) (lim:=lim) hp hB hl hn2 hc hd hb hab
 by_cases c1:h=2
 ·subst c1
  have hr:=fun Q=>rev_ok (X:=X++[.cells false [.int .i64 (s:Int)]]) (cap:=cap) (a:=a) (b:=b) (Q:=Q) hp hB hl hn2 hc hd hb (by omega)
  have P2:=reverseRange_holds d a b (by omega) (by omega)
  generalize reverseRange d a b=d2 at hr P2
  have hd2:d2.size=n:=by rw [P2.1];exact hd
  have hB2:=hBl.perm (by omega) P2
  have h2:=fun fr=>pdq2 (X:=X++[.cells false [.int .i64 (s:Int)]]) (d:=d2) (fr:=fr) (a:=a) (b:=b) (v:=b-1-(v-a)) (h:=1) (lm:=lm) (wb:=wb) (wp:=wp) hp hB hl hn2 hc hS hT hC hm hd2 hb (by omega) hlm (by omega) hB2
  have hw1:IntKind.i64.wrap ((b:Int)-1)=((b-1:Nat):Int):=wrap_int (by omega) (by omega)
  have hw2:IntKind.i64.wrap ((v:Int)-(a:Int))=((v-a:Nat):Int):=wrap_int (by omega) (by omega)
  have hw3:IntKind.i64.wrap (((b-1:Nat):Int)-((v-a:Nat):Int))=((b-1-(v-a):Nat):Int):=wrap_int (by omega) (by omega)
  have hcho':∀Q,CallR E false lim 68 [.slice p n cap,.int .i64 (a:Int),.int .i64 (b:Int),.func (.func cl) #[] cs.toArray] (DH encL G B d++X) Q=Q (.tuple #[.int .i64 (v:Int),.int .i64 2]) (DH encL G B d++(X++[.cells false [.int .i64 (s:Int)]])):=hcho
  rw [Ret_code q1_eq];simp only [p6,p7,hdc,tlc,unb,q1,l63_1]
  simp only [n63,r63,g0,g1,g2,g3,g4,g10,g11,g12,hcho',hr,hw1,hw2,hw3,SB,Nat.reduceLT,callee,aOp,ne_eq,Nat.reduceEqDiff,aBin,aUn,if_true,if_false,reduceCtorEq,frame0,place,notTuple,Nat.reduceAdd,Nat.reduceLeDiff,resVal,dite_true,dite_false,Int.reduceEq,Int.reduceLT,Int.reduceLE]
  refine Ret.mono (h2 _ (by simp only [g0,FB,Nat.reduceEqDiff]) (by simp only [g1,FB,Nat.reduceEqDiff]) (by simp only [g2,FB,Nat.reduceEqDiff]) (by simp only [g3,FB,Nat.reduceEqDiff]) (by simp only [g4,FB,Nat.reduceEqDiff]) (by simp only [g10,FB,Nat.reduceEqDiff]) (by simp only [g11,FB,Nat.reduceEqDiff]) (by simp only [g12,FB,Nat.reduceEqDiff]) (by simp only [FB,Nat.reduceEqDiff]) (by simp only [upd_same,upd_ne,ne_eq,Nat.reduceEqDiff,not_false_eq_true];rfl)) fun v' H' hq=>?_
  exact Done.perm hq P2
 ·have c2:¬(h:Int)=2:=by omega
  have h2:=fun fr=>pdq2 (X:=X++[.cells false [.int .i64 (s:Int)]]) (d:=d) (fr:=fr) (a:=a) (b:=b) (v:=v) (h:=h) (lm:=lm) (wb:=wb) (wp:=wp) hp hB hl hn2 hc hS hT hC hm hd hb (by omega) hlm (by omega) hBl
  rw [Ret_code q1_eq];simp only [p6,p7,hdc,tlc,unb,q1,l63_1]
  simp only [n63,r63,g0,g1,g2,g3,g4,g10,g11,g12,hcho,c2,SB,Nat.reduceLT,callee,aOp,ne_eq,Nat.reduceEqDiff,aBin,aUn,if_true,if_false,reduceCtorEq,frame0,place,notTuple,Nat.reduceAdd,Nat.reduceLeDiff,resVal,dite_true,dite_false,Int.reduceEq,Int.reduceLT,Int.reduceLE]
  refine Ret.mono (h2 _ (by simp only [g0,FB,Nat.reduceEqDiff]) (by simp only [g1,FB,Nat.reduceEqDiff]) (by simp only [g2,FB,Nat.reduceEqDiff]) (by simp only [g3,FB,Nat.reduceEqDiff]) (by simp only [g4,FB,Nat.reduceEqDiff]) (by simp only [g10,FB,Nat.reduceEqDiff]) (by simp only [g11,FB,Nat.reduceEqDiff]) (by simp only [g12,FB,Nat.reduceEqDiff]) (by simp only [FB,Nat.reduceEqDiff]) (by simp only [FB,Nat.reduceEqDiff])) fun v' H' hq=>?_
  exact Done.perm hq (permIn_refl _ _ _)
theorem pdq_loop [OB] {G X:Heap} {B lim cap n:Nat} {p:Option Addr} {c:Go.Net.Leg→Go.Net.Leg→Int} {cl:FuncId} {cs:List Value} (hp:p=some ⟨B,0,none⟩) (hB:B<G.length) (hl:lim≤B) (hn2:n<2 ^ 61) (hc:∀(mp:Bool) (lim:Nat) (x y:Go.Net.Leg) (H:Heap) (Q:Value→Heap→Prop),CallR E mp lim cl (.agg (encL x).toArray::.agg (encL y).toArray::cs) H Q=Q (.int .i64 (c x y)) H) (hS:SWO (ltC c)) (hn3:n<65536):∀(m a b lm:Nat) (wb wp:Bool) (d:Array Go.Net.Leg) (X:Heap) (fr:Nat→Value),b-a<m→a≤b→b≤n→d.size=n→Below (ltC c) a b d→lm<2 ^ 60→fr 0=.slice p n cap→fr 1=.int .i64 (a:Int)→fr 2=.int .i64 (b:Int)→fr 3=.int .i64 (lm:Int)→fr 4=.func (.func cl) #[] cs.toArray→fr 10=.bool wb→fr 11=.bool wp→
  Ret E a63 lim (.inLoop l63_1::.inBlock 0::[]) fr (DH encL G B d++X) (Done G B n c a b d X):=by
 intro m
 induction m with
 | zero=>intro a b lm wb wp d X fr h;omega
 | succ m ih=>
   intro a b lm wb wp d X fr hlt hab hb hd hBl hlm g0 g1 g2 g3 g4 g10 g11
   have hC:∀(a b lm:Nat) (d:Array Go.Net.Leg) (X:Heap),b-a<m→a≤b→b≤n→d.size=n→Below (ltC c) a b d→lm<2 ^ 60→∃d' Y,d'.size=n∧PermIn a b d d'∧SortedIn (ltC c) a b d'∧∀Q,CallR E false lim 63 [.slice p n cap,.int .i64 (a:Int),.int .i64 (b:Int),.int .i64 (lm:Int),.func (.func cl) #[] cs.toArray] (DH encL G B d++X) Q=Q (.tuple #[]) (DH encL G B d'++(X++Y)):=by
    intro a b lm d X k1 k2 k3 k4 k5 k6
    have key:CallR E false lim 63 [.slice p n cap,.int .i64 (a:Int),.int .i64 (b:Int),.int .i64 (lm:Int),.func (.func cl) #[] cs.toArray] (DH encL G B d++X) (Done G B n c a b d X):=by
     rw [CallR_run (E:=E) (g:=63) (af:=a63) (by simp [E,orc]) e63 rfl rfl]
     rw [b63,c63]
     simp only [n63,r63,SB,Nat.reduceLT,callee,aOp,ne_eq,Nat.reduceEqDiff,aBin,aUn,if_true,if_false,reduceCtorEq,frame0,place,notTuple,Nat.reduceAdd,Nat.reduceLeDiff,resVal,dite_true,dite_false,Int.reduceEq,Int.reduceLT,Int.reduceLE]
     rw [Ret_loop,←Ret_inLoop]
     exact ih a b lm true true d X _ k1 k2 k3 k4 k5 k6 (by simp only [FB,Nat.reduceEqDiff]) (by simp only [FB,Nat.reduceEqDiff]) (by simp only [FB,Nat.reduceEqDiff]) (by simp only [FB,Nat.reduceEqDiff]) (by simp only [FB,Nat.reduceEqDiff]) (by simp only [FB,Nat.reduceEqDiff]) (by simp only [FB,Nat.reduceEqDiff])
    obtain ⟨k,v,H',hx,d',Y,h1,h2,h3,rfl,rfl⟩:=CallR.one key
    exact ⟨d',Y,h1,h2,h3,fun Q=>CallR.det hx⟩
   have h1:=fun d X fr lm hd hBl hab hlm=>pdq1 (X:=X) (d:=d) (fr:=fr) (a:=a) (b:=b) (lm:=lm) (wb:=wb) (wp:=wp) (m:=m) (L:=.inLoop l63_1::.inBlock 0::[]) hp hB hl hn2 hc hS ih hC (by omega) hd hb hab hlm hBl
   rw [Ret_inLoop]
   generalize (AItem.inLoop l63_1::[AItem.inBlock 0])=L at h1
   rw [Ret_code body_eq];simp only [p1,p2,p3,p4,hdc,tlc,unb,l63_1]
   have hw1:IntKind.i64.wrap ((b:Int)-(a:Int))=((b-a:Nat):Int):=wrap_int (by omega) (by omega)
   by_cases c1:b-a≤12
   ·have c1':((b-a:Nat):Int)≤12:=by omega
    have hi:=fun Q=>ins_ok (X:=X) (cap:=cap) (a:=a) (b:=b) (Q:=Q) hp hB hl hn2 hc hd hb hab
    obtain ⟨P,S⟩:=insertionSort_holds hS d a b hab (by omega)
    simp only [n63,r63,g0,g1,g2,g3,g4,g10,g11,hw1,c1',hi,SB,Nat.reduceLT,callee,aOp,ne_eq,Nat.reduceEqDiff,aBin,aUn,if_true,if_false,reduceCtorEq,frame0,place,notTuple,Nat.reduceAdd,Nat.reduceLeDiff,resVal,dite_true,dite_false,Int.reduceEq,Int.reduceLT,Int.reduceLE]
    exact ⟨_,[],by rw [P.1];exact hd,P,S,rfl,by simp⟩
   have c1':¬((b-a:Nat):Int)≤12:=by omega
   by_cases c2:lm=0
   ·have c2':(lm:Int)=0:=by omega
    have hi:=fun Q=>heap_ok (X:=X) (cap:=cap) (a:=a) (b:=b) (Q:=Q) hp hB hl hn2 hc hd hb hab
    obtain ⟨P,S⟩:=heapSort_holds hS d a b hab (by omega)
    simp only [n63,r63,g0,g1,g2,g3,g4,g10,g11,hw1,c1',c2',hi,SB,Nat.reduceLT,callee,aOp,ne_eq,Nat.reduceEqDiff,aBin,aUn,if_true,if_false,reduceCtorEq,frame0,place,notTuple,Nat.reduceAdd,Nat.reduceLeDiff,resVal,dite_true,dite_false,Int.reduceEq,Int.reduceLT,Int.reduceLE]
    exact ⟨_,[],by rw [P.1];exact hd,P,S,rfl,by simp⟩
   have c2':¬(lm:Int)=0:=by omega
   cases wb with
   | true=>
     simp only [n63,r63,g0,g1,g2,g3,g4,g10,g11,hw1,c1',c2',SB,Nat.reduceLT,callee,aOp,ne_eq,Nat.reduceEqDiff,aBin,aUn,if_true,if_false,reduceCtorEq,frame0,place,notTuple,Nat.reduceAdd,Nat.reduceLeDiff,resVal,dite_true,dite_false,Int.reduceEq,Int.reduceLT,Int.reduceLE]
     exact h1 d X _ lm hd hBl (by omega) hlm (by simp only [g0,FB,Nat.reduceEqDiff]) (by simp only [g1,FB,Nat.reduceEqDiff]) (by simp only [g2,FB,Nat.reduceEqDiff]) (by simp only [g3,FB,Nat.reduceEqDiff]) (by simp only [g4,FB,Nat.reduceEqDiff]) (by simp only [g10,FB,Nat.reduceEqDiff]) (by simp only [g11,FB,Nat.reduceEqDiff]) (by simp only [FB,Nat.reduceEqDiff])
   | false=>
     obtain ⟨d1,s,hd1,P1,hbr⟩:=brk_ok (X:=X) (cap:=cap) (lim:=lim) hp hB hl hn2 hc hd hb (show a+12<b by omega) hn3
     have hw2:IntKind.i64.wrap ((lm:Int)-1)=((lm-1:Nat):Int):=wrap_int (by omega) (by omega)
     simp only [n63,r63,g0,g1,g2,g3,g4,g10,g11,hw1,c1',c2',hbr,hw2,SB,Nat.reduceLT,callee,aOp,ne_eq,Nat.reduceEqDiff,aBin,aUn,if_true,if_false,reduceCtorEq,frame0,place,notTuple,Nat.reduceAdd,Nat.reduceLeDiff,resVal,dite_true,dite_false,Int.reduceEq,Int.reduceLT,Int.reduceLE]
     refine Ret.mono (h1 d1 (X++[.cells false [.int .u64 s]]) _ (lm-1) hd1 (hBl.perm (by omega) P1) (by omega) (by omega) (by simp only [g0,FB,Nat.reduceEqDiff]) (by simp only [g1,FB,Nat.reduceEqDiff]) (by simp only [g2,FB,Nat.reduceEqDiff]) (by simp only [FB,Nat.reduceEqDiff]) (by simp only [g4,FB,Nat.reduceEqDiff]) (by simp only [g10,FB,Nat.reduceEqDiff]) (by simp only [g11,FB,Nat.reduceEqDiff]) (by simp only [FB,Nat.reduceEqDiff])) fun v' H' hq=>?_
     exact Done.perm hq P1
theorem len0_ok [OB] {mp:Bool} {lim:Nat} {H:Heap} {Q:Value→Heap→Prop}:CallR E mp lim 64 [.int .u64 0] H Q=Q (.int .i64 0) H:=by
 have key:∀(mp:Bool) (lim:Nat) (H:Heap) (Q:Value→Heap→Prop),CallR E mp lim 74 [.int .u64 0] H Q=Q (.int .i64 0) H:=by
  intro mp lim H Q
  refine pc (by decide) e74 rfl rfl ?_
  rw [b74,c74]
  have w2:IntKind.u8.wrap 0=0:=by decide
  have w3:IntKind.i64.wrap 0=0:=by decide
  simp only [n74,r74,w2,w3,Int.toNat_zero,List.getElem?_cons_zero,Option.map_some,UInt8.toNat_zero,UInt8.toNat_ofNat,Nat.reduceMod,Nat.reducePow,Int.cast_ofNat_Int,Int.add_zero,SB,Nat.reduceLT,callee,aOp,ne_eq,Nat.reduceEqDiff,aBin,aUn,if_true,if_false,reduceCtorEq,frame0,place,notTuple,Nat.reduceAdd,Nat.reduceLeDiff,resVal,dite_true,dite_false,Int.reduceEq,Int.reduceLT,Int.reduceLE]
 refine pc (by decide) e64 rfl rfl ?_
 rw [b64,c64]
 simp only [n64,r64,key,SB,Nat.reduceLT,callee,aOp,ne_eq,Nat.reduceEqDiff,aBin,aUn,if_true,if_false,reduceCtorEq,frame0,place,notTuple,Nat.reduceAdd,Nat.reduceLeDiff,resVal,dite_true,dite_false,Int.reduceEq,Int.reduceLT,Int.reduceLE]
theorem pdq_call [OB] {G X:Heap} {B lim cap n:Nat} {p:Option Addr} {c:Go.Net.Leg→Go.Net.Leg→Int} {cl:FuncId} {cs:List Value} (hp:p=some ⟨B,0,none⟩) (hB:B<G.length) (hl:lim≤B) (hn2:n<2 ^ 61) (hc:∀(mp:Bool) (lim:Nat) (x y:Go.Net.Leg) (H:Heap) (Q:Value→Heap→Prop),CallR E mp lim cl (.agg (encL x).toArray::.agg (encL y).toArray::cs) H Q=Q (.int .i64 (c x y)) H) (hS:SWO (ltC c)) (hn3:n<65536) {d:Array Go.Net.Leg} {lm:Nat} (hd:d.size=n) (hlm:lm<2 ^ 60) :
  ∃d' Y,d'.size=n∧PermIn 0 n d d'∧SortedIn (ltC c) 0 n d'∧∀Q,CallR E false lim 63 [.slice p n cap,.int .i64 0,.int .i64 (n:Int),.int .i64 (lm:Int),.func (.func cl) #[] cs.toArray] (DH encL G B d++X) Q=Q (.tuple #[]) (DH encL G B d'++(X++Y)):=by
 have hBl:Below (ltC c) 0 n d:=by simp [Below]
 have key:CallR E false lim 63 [.slice p n cap,.int .i64 0,.int .i64 (n:Int),.int .i64 (lm:Int),.func (.func cl) #[] cs.toArray] (DH encL G B d++X) (Done G B n c 0 n d X):=by
  rw [CallR_run (E:=E) (g:=63) (af:=a63) (by simp [E,orc]) e63 rfl rfl]
  rw [b63,c63]
  simp only [n63,r63,SB,Nat.reduceLT,callee,aOp,ne_eq,Nat.reduceEqDiff,aBin,aUn,if_true,if_false,reduceCtorEq,frame0,place,notTuple,Nat.reduceAdd,Nat.reduceLeDiff,resVal,dite_true,dite_false,Int.reduceEq,Int.reduceLT,Int.reduceLE]
  rw [Ret_loop,←Ret_inLoop]
  exact pdq_loop (X:=X) (cap:=cap) hp hB hl hn2 hc hS hn3 (n+1) 0 n lm true true d X _ (by omega) (by omega) (by omega) hd hBl hlm (by simp only [FB,Nat.reduceEqDiff]) (by simp only [Int.cast_ofNat_Int,FB,Nat.reduceEqDiff]) (by simp only [FB,Nat.reduceEqDiff]) (by simp only [FB,Nat.reduceEqDiff]) (by simp only [FB,Nat.reduceEqDiff]) (by simp only [FB,Nat.reduceEqDiff]) (by simp only [FB,Nat.reduceEqDiff])
 obtain ⟨k,v,H',hx,d',Y,h1,h2,h3,rfl,rfl⟩:=CallR.one key
 exact ⟨d',Y,h1,h2,h3,fun Q=>CallR.det hx⟩
theorem sort_ok [OB] {G X:Heap} {B lim cap n:Nat} {p:Option Addr} {c:Go.Net.Leg→Go.Net.Leg→Int} {cl:FuncId} {cs:List Value} (hp:p=some ⟨B,0,none⟩) (hB:B<G.length) (hl:lim≤B) (hn2:n<2 ^ 61) (hc:∀(mp:Bool) (lim:Nat) (x y:Go.Net.Leg) (H:Heap) (Q:Value→Heap→Prop),CallR E mp lim cl (.agg (encL x).toArray::.agg (encL y).toArray::cs) H Q=Q (.int .i64 (c x y)) H) (hS:SWO (ltC c)) (hn3:n<65536) {d:Array Go.Net.Leg} (hd:d.size=n) :
  ∃d' Y,d'.size=n∧PermIn 0 n d d'∧SortedIn (ltC c) 0 n d'∧∀Q,CallR E false lim 51 [.slice p n cap,.func (.func cl) #[] cs.toArray] (DH encL G B d++X) Q=Q (.tuple #[]) (DH encL G B d'++(X++Y)):=by
 have key:CallR E false lim 51 [.slice p n cap,.func (.func cl) #[] cs.toArray] (DH encL G B d++X) (Done G B n c 0 n d X):=by
  rw [CallR_run (E:=E) (g:=51) (af:=a51) (by simp [E,orc]) e51 rfl rfl]
  rw [b51,c51]
  have w1:IntKind.u64.wrap (n:Int)=(n:Int):=by rw [wrap64];omega
  by_cases h0:n=0
  ·subst h0
   obtain ⟨d',Y,k1,k2,k3,k4⟩:=pdq_call (X:=X) (lm:=0) (cap:=cap) hp hB hl hn2 hc hS hn3 hd (by omega)
   have k4':∀Q,CallR E false lim 63 [.slice p 0 cap,.int .i64 0,.int .i64 0,.int .i64 0,.func (.func cl) #[] cs.toArray] (DH encL G B d++X) Q=Q (.tuple #[]) (DH encL G B d'++(X++Y)):=k4
   have w0:IntKind.u64.wrap 0=0:=by decide
   simp only [n51,r51,w0,len0_ok,k4',SB,Nat.reduceLT,callee,aOp,ne_eq,Nat.reduceEqDiff,aBin,aUn,if_true,if_false,reduceCtorEq,frame0,place,notTuple,Nat.reduceAdd,Nat.reduceLeDiff,resVal,dite_true,dite_false,Int.reduceEq,Int.reduceLT,Int.reduceLE]
   exact ⟨_,_,k1,k2,k3,rfl,rfl⟩
  ·obtain ⟨L,l1,l2,l3,l4⟩:=len_ok (x:=n) hn3 (by omega)
   obtain ⟨d',Y,k1,k2,k3,k4⟩:=pdq_call (X:=X) (lm:=L) (cap:=cap) hp hB hl hn2 hc hS hn3 hd (by omega)
   simp only [n51,r51,w1,l4,k4,SB,Nat.reduceLT,callee,aOp,ne_eq,Nat.reduceEqDiff,aBin,aUn,if_true,if_false,reduceCtorEq,frame0,place,notTuple,Nat.reduceAdd,Nat.reduceLeDiff,resVal,dite_true,dite_false,Int.reduceEq,Int.reduceLT,Int.reduceLE]
   exact ⟨_,_,k1,k2,k3,rfl,rfl⟩
 obtain ⟨k,v,H',hx,d',Y,h1,h2,h3,rfl,rfl⟩:=CallR.one key
 exact ⟨d',Y,h1,h2,h3,fun Q=>CallR.det hx⟩
theorem sort_nil [OB] {lim cap:Nat} {p:Option Addr} {cl:FuncId} {cs:List Value} {H:Heap} {Q:Value→Heap→Prop}:CallR E false lim 51 [.slice p 0 cap,.func (.func cl) #[] cs.toArray] H Q=Q (.tuple #[]) H:=by
 have hi:∀Q,CallR E false lim 65 [.slice p 0 cap,.int .i64 0,.int .i64 0,.func (.func cl) #[] cs.toArray] H Q=Q (.tuple #[]) H:=by
  intro Q
  refine runs (by decide) e65 rfl ?_
  rw [b65,c65]
  have w1:IntKind.i64.wrap 1=1:=by decide
  simp only [n65,r65,w1,Int.zero_add,Int.reduceLT,decide_false,SB,Nat.reduceLT,callee,aOp,ne_eq,Nat.reduceEqDiff,aBin,aUn,if_true,if_false,reduceCtorEq,frame0,place,notTuple,Nat.reduceAdd,Nat.reduceLeDiff,resVal,dite_true,dite_false,Int.reduceEq,Int.reduceLT,Int.reduceLE]
  rw [Ret_loop,Ret_code l65_2.eq_1]
  simp only [n65,r65,SB,Nat.reduceLT,callee,aOp,ne_eq,Nat.reduceEqDiff,aBin,aUn,if_true,if_false,reduceCtorEq,frame0,place,notTuple,Nat.reduceAdd,Nat.reduceLeDiff,resVal,dite_true,dite_false,Int.reduceEq,Int.reduceLT,Int.reduceLE]
 have hq:∀Q,CallR E false lim 63 [.slice p 0 cap,.int .i64 0,.int .i64 0,.int .i64 0,.func (.func cl) #[] cs.toArray] H Q=Q (.tuple #[]) H:=by
  intro Q
  refine runs (by decide) e63 rfl ?_
  rw [b63,c63]
  simp only [n63,r63,SB,Nat.reduceLT,callee,aOp,ne_eq,Nat.reduceEqDiff,aBin,aUn,if_true,if_false,reduceCtorEq,frame0,place,notTuple,Nat.reduceAdd,Nat.reduceLeDiff,resVal,dite_true,dite_false,Int.reduceEq,Int.reduceLT,Int.reduceLE]
  rw [Ret_loop,Ret_code body_eq]
  simp only [p1,p2,hdc,tlc,unb,l63_1]
  have w1:IntKind.i64.wrap 0=0:=by decide
  simp only [n63,r63,w1,hi,Int.sub_self,SB,Nat.reduceLT,callee,aOp,ne_eq,Nat.reduceEqDiff,aBin,aUn,if_true,if_false,reduceCtorEq,frame0,place,notTuple,Nat.reduceAdd,Nat.reduceLeDiff,resVal,dite_true,dite_false,Int.reduceEq,Int.reduceLT,Int.reduceLE]
 refine runs (by decide) e51 rfl ?_
 rw [b51,c51]
 have w0:IntKind.u64.wrap 0=0:=by decide
 simp only [n51,r51,w0,len0_ok,hq,SB,Nat.reduceLT,callee,aOp,ne_eq,Nat.reduceEqDiff,aBin,aUn,if_true,if_false,reduceCtorEq,frame0,place,notTuple,Nat.reduceAdd,Nat.reduceLeDiff,resVal,dite_true,dite_false,Int.reduceEq,Int.reduceLT,Int.reduceLE]
end Go.Proofs.Ytfedceicnjnefac.Fn

namespace Go.Proofs.Ytfedceicnjnefac.Fn
open Go.AM Go.AM.Sym Go.Net Go.Sort
set_option maxRecDepth 100000
set_option linter.unusedVariables false
set_option linter.unusedSimpArgs false
set_option maxHeartbeats 4000000
def cmpL (a b:Leg):Int:=if a.id<b.id then -1 else if b.id<a.id then 1 else 0
theorem nan_ok [OB] {mp:Bool} {lim:Nat} {a:Int} {H:Heap} {Q:Value→Heap→Prop}:CallR E mp lim 53 [.int .i64 a] H Q=Q (.bool false) H:=by
 refine pc (by decide) e53 rfl rfl ?_
 rw [b53,c53]
 simp only [n53,r53,SB,Nat.reduceLT,callee,aOp,ne_eq,Nat.reduceEqDiff,aBin,aUn,if_true,if_false,reduceCtorEq,frame0,place,notTuple,Nat.reduceAdd,Nat.reduceLeDiff,resVal,dite_true,dite_false,Int.reduceEq,Int.reduceLT,Int.reduceLE]
theorem cmpi_ok [OB] {mp:Bool} {lim:Nat} {a b:Int} {H:Heap} {Q:Value→Heap→Prop}:CallR E mp lim 35 [.int .i64 a,.int .i64 b] H Q=Q (.int .i64 (if a<b then -1 else if b<a then 1 else 0)) H:=by
 refine pc (by decide) e35 rfl rfl ?_
 rw [b35,c35]
 by_cases h1:a<b
 ·simp only [n35,r35,nan_ok,eq_true h1,SB,Nat.reduceLT,callee,aOp,ne_eq,Nat.reduceEqDiff,aBin,aUn,if_true,if_false,reduceCtorEq,frame0,place,notTuple,Nat.reduceAdd,Nat.reduceLeDiff,resVal,dite_true,dite_false,Int.reduceEq,Int.reduceLT,Int.reduceLE]
 ·by_cases h2:b<a
  ·simp only [n35,r35,nan_ok,eq_false h1,eq_true h2,SB,Nat.reduceLT,callee,aOp,ne_eq,Nat.reduceEqDiff,aBin,aUn,if_true,if_false,reduceCtorEq,frame0,place,notTuple,Nat.reduceAdd,Nat.reduceLeDiff,resVal,dite_true,dite_false,Int.reduceEq,Int.reduceLT,Int.reduceLE]
  ·simp only [n35,r35,nan_ok,eq_false h1,eq_false h2,SB,Nat.reduceLT,callee,aOp,ne_eq,Nat.reduceEqDiff,aBin,aUn,if_true,if_false,reduceCtorEq,frame0,place,notTuple,Nat.reduceAdd,Nat.reduceLeDiff,resVal,dite_true,dite_false,Int.reduceEq,Int.reduceLT,Int.reduceLE]
theorem cmpL_ok [OB] (mp:Bool) (lim:Nat) (a b:Leg) (H:Heap) (Q:Value→Heap→Prop):CallR E mp lim 34 [.agg (encL a).toArray,.agg (encL b).toArray] H Q=Q (.int .i64 (cmpL a b)) H:=by
 refine pc (by decide) e34 rfl rfl ?_
 rw [b34,c34]
 simp only [n34,r34,encL_len,encL_0,encL_1,encL_2,encL_3,encL_4,encL_5,encL_6,encL_7,take_all,cmpi_ok,cmpL,SB,Nat.reduceLT,callee,aOp,ne_eq,Nat.reduceEqDiff,aBin,aUn,if_true,if_false,reduceCtorEq,frame0,place,notTuple,Nat.reduceAdd,Nat.reduceLeDiff,resVal,dite_true,dite_false,Int.reduceEq,Int.reduceLT,Int.reduceLE]
theorem cmpL_lt (a b:Leg):ltC cmpL a b=decide (a.id<b.id):=by
 unfold ltC cmpL
 by_cases h1:a.id<b.id
 ·simp [h1]
 ·by_cases h2:b.id<a.id
  ·simp [h1,h2]
  ·simp [h1,h2]
theorem cmpL_swo:SWO (ltC cmpL):=by
 refine ⟨fun x=>?_,fun x y z h1 h2=>?_,fun x y z h1 h2=>?_⟩
 ·rw [cmpL_lt];simp
 ·rw [cmpL_lt] at *;simp only [decide_eq_true_eq] at *;omega
 ·rw [cmpL_lt] at *;simp only [decide_eq_false_iff_not] at *;omega
theorem perm_list {n:Nat} {d d':Array Leg} (hd:d.size=n) (h:PermIn 0 n d d'):d'.toList.Perm d.toList:=by
 obtain ⟨h1,h2,h3⟩:=h
 subst hd
 rw [Array.extract_size] at h3
 rw [←h1,Array.extract_size] at h3
 exact h3
theorem sorted_list {n:Nat} {d:Array Leg} (hd:d.size=n) (h:SortedIn (ltC cmpL) 0 n d) (hid:d.toList.Pairwise (fun a b=>a.id≠b.id)):d.toList.Pairwise (fun a b=>a.id<b.id):=by
 rw [List.pairwise_iff_getElem] at *
 intro i j hi hj hij
 have h1:=h i j (Nat.zero_le _) hij (by simpa [hd] using hj)
 have h2:=hid i j hi hj hij
 rw [cmpL_lt] at h1
 have e1:d[i]! = d.toList[i]:=by rw [getElem!_pos d i (by simpa using hi)];simp
 have e2:d[j]! = d.toList[j]:=by rw [getElem!_pos d j (by simpa using hj)];simp
 rw [e1,e2] at h1
 simp only [decide_eq_false_iff_not] at h1
 omega
theorem DH_same {G:Heap} {B:Nat} {l:List Leg} (hB:hget G B=.cells false (l.flatMap encL)):DH encL G B l.toArray=G:=by
 have hl:=hget_alive hB
 unfold DH
 apply List.ext_getElem
 ·simp
 intro i h1 h2
 rw [List.getElem_set]
 split
 ·rename_i e;subst e
  unfold hget at hB
  rw [List.getD_eq_getElem?_getD,List.getElem?_eq_getElem hl] at hB
  exact hB.symm
 ·rfl
theorem legs_ids {P:List Int} {L:List Leg} (h:LegsOk P L):L.Pairwise (fun a b=>a.id≠b.id):=by
 rw [List.pairwise_iff_getElem]
 intro i j hi hj hij e
 have h2:=(h j hj).2.1
 rw [gt_lt hj] at h2
 apply h2
 rw [List.mem_map]
 exact ⟨L[i],List.mem_take_iff_getElem.2 ⟨i,by omega,rfl⟩,e⟩
theorem sorted_ok [OB] {lim Bx c:Nat} {p:Option Addr} {o:Bool} {L:List Leg} {H:Heap} {Q:Value→Heap→Prop} (hB:hget H Bx=.cells o [.slice p L.length c]) (hs:Sl H encL 8 p L) (hn:L.length≤200) (hlim:lim≤H.length) (hid:L.Pairwise (fun a b=>a.id≠b.id))
  (hQ:∀H' q cap (S:List Leg),Chg [] H H'→Sl H' encL 8 q S→S.Perm L→S.Pairwise (fun a b=>a.id<b.id)→(∀a,q=some a→H.length≤a.block)→Q (.slice q L.length cap) H') :
  CallR E false lim 32 [.func (.func 52) #[] #[.pointer (some ⟨Bx,0,none⟩)],.func (.func 34) #[] #[]] H Q:=by
 refine runs' (by decide) e32 rfl ?_
 rw [b32,c32]
 simp only [n32,r32,SB,Nat.reduceLT,callee,aOp,ne_eq,Nat.reduceEqDiff,aBin,aUn,if_true,if_false,reduceCtorEq,frame0,place,notTuple,Nat.reduceAdd,Nat.reduceLeDiff,resVal,dite_true,dite_false,Int.reduceEq,Int.reduceLT,Int.reduceLE]
 rw [List.append_nil]
 refine collect_ok hB hs (by omega) hlim fun H' q cap hC hO=>?_
 have hl:=hC.len
 refine Ret_pad ?_
 rcases hO with ⟨h0,rfl,rfl⟩ | ⟨R,rfl,rfl,hR,hRl⟩
 ·subst h0
  have hsn:∀X Q,CallR E false lim 51 [.slice none 0 0,.func (.func 34) #[] #[]] (H'++X) Q=Q (.tuple #[]) (H'++X):=fun X Q=>sort_nil (cs:=[])
  simp only [n32,r32,hsn,List.length_nil,SB,Nat.reduceLT,callee,aOp,ne_eq,Nat.reduceEqDiff,aBin,aUn,if_true,if_false,reduceCtorEq,frame0,place,notTuple,Nat.reduceAdd,Nat.reduceLeDiff,resVal,dite_true,dite_false,Int.reduceEq,Int.reduceLT,Int.reduceLE]
  exact hQ _ _ _ [] hC.app (show Sl _ encL 8 none [] from rfl) (List.Perm.refl _) List.Pairwise.nil (fun a e=>by cases e)
 ·obtain ⟨d,Y,h1,h2,h3,h4⟩:=sort_ok (X:=[]) (G:=H') (B:=R) (lim:=lim) (cap:=loose 8) (n:=L.length) (p:=some ⟨R,0,none⟩) (c:=cmpL) (cl:=34) (cs:=[]) rfl (hget_alive hR) (by omega) (by omega) (fun mp lim x y H Q=>cmpL_ok mp lim x y H Q) cmpL_swo (by omega) (d:=L.toArray) (by simp)
  rw [DH_same hR] at h4
  have hp:d.toList.Perm L:=perm_list (d:=L.toArray) (n:=L.length) (by simp) h2
  simp only [List.nil_append] at h4
  have h4':∀Q,CallR E false lim 51 [.slice (some ⟨R,0,none⟩) L.length (loose 8),.func (.func 34) #[] #[]] (H'++[]) Q=Q (.tuple #[]) (DH encL H' R d++Y):=h4
  simp only [n32,r32,h4',SB,Nat.reduceLT,callee,aOp,ne_eq,Nat.reduceEqDiff,aBin,aUn,if_true,if_false,reduceCtorEq,frame0,place,notTuple,Nat.reduceAdd,Nat.reduceLeDiff,resVal,dite_true,dite_false,Int.reduceEq,Int.reduceLT,Int.reduceLE]
  have hRl':=hget_alive hR
  have hm:Mut H' (DH encL H' R d) R:=⟨by simp [DH],fun j hj=>hget_set_ne hj⟩
  refine hQ _ _ _ d.toList ((hC.mut hm (.inr (by omega))).app) (DH_sl rfl hRl' encL_len) hp ?_ (fun a e=>by cases e;show H.length≤R;omega)
  exact sorted_list h1 h3 ((hp.pairwise_iff (fun h e=>h e.symm)).2 hid)
end Go.Proofs.Ytfedceicnjnefac.Fn

namespace Go.Proofs.Ytfedceicnjnefac.Fn
open Go.AM Go.AM.Sym Go.Net
set_option maxRecDepth 100000
set_option linter.unusedVariables false
set_option linter.unusedSimpArgs false
set_option maxHeartbeats 4000000
theorem values_ok [OB] {lim n c:Nat} {p:Option Addr} {H:Heap} {Q:Value→Heap→Prop}:CallR E false lim 33 [.slice p n c] H Q=Q (.func (.func 52) #[] #[.pointer (some ⟨H.length,0,none⟩)]) (H++[.cells false [.slice p n c]]):=by
 rw [CallR_run (E:=E) (by simp [E,orc]) (show E.tr 33=some a33 from e33) rfl rfl,b33,c33]
 rw [←List.append_nil H]
 simp only [n33,r33,SB,Nat.reduceLT,callee,aOp,ne_eq,Nat.reduceEqDiff,aBin,aUn,if_true,if_false,reduceCtorEq,frame0,place,notTuple,Nat.reduceAdd,Nat.reduceLeDiff,resVal,dite_true,dite_false,Int.reduceEq,Int.reduceLT,Int.reduceLE]
def stopOf (x:Leg×Int):Int×Int×Int:=(x.1.id,x.2,x.2+x.1.mins)
theorem pick_drop {pos:Int→Nat} {late:List Int} {p t:Int} {S:List Leg} {i:Nat} (h:i<S.length):(S.drop i).findSome? (pickOk pos late p t)=match pickOk pos late p t (gt S i) with | some r=>some r | none=>(S.drop (i+1)).findSome? (pickOk pos late p t):=by
 rw [List.drop_eq_getElem_cons h,List.findSome?_cons,gt_lt h]
 cases pickOk pos late p t S[i]<;>rfl
theorem way_inner [OB] {lim R left c16 cs cw:Nat} {q pw p16:Option Addr} {P:List Int} {L S:List Leg} {Ts:List (List Int)} {w:List (Int×Int×Int)} {plant there:Int} {H G:Heap} {fr:Nat→Value} {K:List AItem} {Z:Value→Heap→Prop}
  (hno:NetOk 50 P L (posN P)) (hS:∀l∈S,l∈L) (hnS:S.length≤200) (hm:hget H R=.map (posV P)) (hlim:lim≤H.length) (hE:Chg [] H G) (hq:Sl H encL 8 q S) (h16:Sl H encT 50 p16 Ts) (hTs:∀T∈Ts,okT T) (hleft:left<Ts.length) (hnT:Ts.length<2 ^ 40) (hth:0≤there∧there≤maxTime) (hO:Own H.length G enc3 3 pw cw w) (hw:w.length<2 ^ 31)
  (f10:fr 10=.map (some R)) (f16:fr 16=.slice p16 Ts.length c16) (f18:fr 18=.slice pw w.length cw) (f19:fr 19=.int .i64 plant) (f20:fr 20=.int .i64 there) (f21:fr 21=.int .i64 (left:Int)) (f77:fr 77=.slice q S.length cs) (f78:fr 78=.int .i64 (S.length:Int)) (f79:fr 79=.int .i64 0)
  (hR:∀fr' G' pw' cw',Chg [] H G'→fr' 10=.map (some R)→fr' 16=.slice p16 Ts.length c16→fr' 17=fr 17→fr' 21=.int .i64 (left:Int)→
   (∀w':List (Int×Int×Int),∀plant' there':Int,(match pickW (posN P) S (gt Ts left) plant there with | some (l,a)=>w'=w++[stopOf (l,a)]∧plant'=l.dst∧there'=a+l.mins | none=>w'=w∧plant'=plant∧there'=there)→fr' 18=.slice pw' w'.length cw'∧fr' 19=.int .i64 plant'∧fr' 20=.int .i64 there'∧Own H.length G' enc3 3 pw' cw' w')→Ret E a14 lim K fr' (G'++[]) Z) :
  Ret E a14 lim (.code (.loop l14_1)::.inBlock 2::K) fr G Z:=by
 refine Ret_rounds (fun i=>S.length-i) (fun i fr' G'=>i≤S.length∧fr' 10=.map (some R)∧fr' 16=.slice p16 Ts.length c16∧fr' 17=fr 17∧fr' 18=.slice pw w.length cw∧fr' 19=.int .i64 plant∧fr' 20=.int .i64 there∧fr' 21=.int .i64 (left:Int)∧fr' 77=.slice q S.length cs∧fr' 78=.int .i64 (S.length:Int)∧fr' 79=.int .i64 (i:Int)∧
  Chg [] H G'∧Own H.length G' enc3 3 pw cw w∧pickW (posN P) S (gt Ts left) plant there=(S.drop i).findSome? (pickOk (posN P) (gt Ts left) plant there)) 0
  ⟨Nat.zero_le _,f10,f16,rfl,f18,f19,f20,f21,f77,f78,f79,hE,hO,rfl⟩ ?_
 intro i fr' G' ⟨hi,g10,g16,g17,g18,g19,g20,g21,g77,g78,g79,hC,hO',hpk⟩ hN
 have hl:=hC.len
 rw [Ret_code l14_1.eq_1]
 refine Ret_pad ?_
 by_cases hlt:i<S.length
 case neg=>
  obtain rfl:i=S.length:=by omega
  rw [List.drop_length,List.findSome?_nil] at hpk
  simp only [n14,r14,g10,g16,g18,g19,g20,g21,g77,g78,g79,hlt,SB,Nat.reduceLT,callee,aOp,ne_eq,Nat.reduceEqDiff,aBin,aUn,if_true,if_false,reduceCtorEq,frame0,place,notTuple,Nat.reduceAdd,Nat.reduceLeDiff,resVal,dite_true,dite_false,Int.reduceEq,Int.reduceLT,Int.reduceLE]
  refine hR _ _ pw cw hC (by simp only [g10,FB,Nat.reduceEqDiff]) (by simp only [g16,FB,Nat.reduceEqDiff]) (by rw [←g17];exact (by simp only [FB,Nat.reduceEqDiff])) (by simp only [g21,FB,Nat.reduceEqDiff]) fun w' plant' there' h=>?_
  rw [hpk] at h
  obtain ⟨rfl,rfl,rfl⟩:=h
  exact ⟨(by simp only [g18,FB,Nat.reduceEqDiff]),(by simp only [g19,FB,Nat.reduceEqDiff]),(by simp only [g20,FB,Nat.reduceEqDiff]),hO'⟩
 have hsl:=hC.ext.sl hq
 have hld:=fun X=>(hsl.app X).loadCells encL_len hlt
 have hidx:=fun c (k:IntKind) (H1:Heap)=>hsl.idx (c:=c) (k:=k) (H1:=H1) hlt
 have hw1:IntKind.i64.wrap ((i:Int)+1)=((i+1:Nat):Int):=wrap_nat (by omega)
 have hlG:lim≤G'.length:=by omega
 have hin:=hS _ (gt_mem hlt)
 have hf:=hno.fine _ hin
 rw [pick_drop hlt] at hpk
 by_cases hfr:(gt S i).frm=plant
 case neg=>
  have e:pickOk (posN P) (gt Ts left) plant there (gt S i)=none:=by unfold pickOk;rw [if_neg hfr]
  rw [e] at hpk
  simp only [n14,r14,g10,g16,g18,g19,g20,g21,g77,g78,g79,hlt,hld,hidx,hw1,encL_len,encL_0,encL_1,encL_2,encL_3,encL_4,encL_5,encL_6,encL_7,take_all,hlG,setAll_full,eq_false hfr,SB,Nat.reduceLT,callee,aOp,ne_eq,Nat.reduceEqDiff,aBin,aUn,if_true,if_false,reduceCtorEq,frame0,place,notTuple,Nat.reduceAdd,Nat.reduceLeDiff,resVal,dite_true,dite_false,Int.reduceEq,Int.reduceLT,Int.reduceLE]
  exact hN (i+1) _ _ ⟨by omega,(by simp only [g10,FB,Nat.reduceEqDiff]),(by simp only [g16,FB,Nat.reduceEqDiff]),by rw [←g17];exact (by simp only [FB,Nat.reduceEqDiff]),(by simp only [g18,FB,Nat.reduceEqDiff]),(by simp only [g19,FB,Nat.reduceEqDiff]),(by simp only [g20,FB,Nat.reduceEqDiff]),(by simp only [g21,FB,Nat.reduceEqDiff]),(by simp only [g77,FB,Nat.reduceEqDiff]),(by simp only [g78,FB,Nat.reduceEqDiff]),(by simp only [FB,Nat.reduceEqDiff]),hC.app,hO'.app _,hpk⟩ (by omega)
 unfold maxTime at hth
 have hnx:=fun (H:Heap) (mp:Bool) (lim:Nat) (Q:Value→Heap→Prop)=>next_ok (mp:=mp) (lim:=lim) (H:=H) (Q:=Q) (l:=gt S i) (r:=there) hf (by omega) (by omega)
 cases hx:nextD (gt S i) there with
 | none=>
   have e:pickOk (posN P) (gt Ts left) plant there (gt S i)=none:=by unfold pickOk;rw [if_pos hfr];simp only [hx]
   rw [e] at hpk
   rw [hx] at hnx
   simp only [Option.map_none,depV] at hnx
   simp only [n14,r14,g10,g16,g18,g19,g20,g21,g77,g78,g79,hlt,hld,hidx,hw1,encL_len,encL_0,encL_1,encL_2,encL_3,encL_4,encL_5,encL_6,encL_7,take_all,hlG,setAll_full,eq_true hfr,hnx,SB,Nat.reduceLT,callee,aOp,ne_eq,Nat.reduceEqDiff,aBin,aUn,if_true,if_false,reduceCtorEq,frame0,place,notTuple,Nat.reduceAdd,Nat.reduceLeDiff,resVal,dite_true,dite_false,Int.reduceEq,Int.reduceLT,Int.reduceLE]
   exact hN (i+1) _ _ ⟨by omega,(by simp only [g10,FB,Nat.reduceEqDiff]),(by simp only [g16,FB,Nat.reduceEqDiff]),by rw [←g17];exact (by simp only [FB,Nat.reduceEqDiff]),(by simp only [g18,FB,Nat.reduceEqDiff]),(by simp only [g19,FB,Nat.reduceEqDiff]),(by simp only [g20,FB,Nat.reduceEqDiff]),(by simp only [g21,FB,Nat.reduceEqDiff]),(by simp only [g77,FB,Nat.reduceEqDiff]),(by simp only [g78,FB,Nat.reduceEqDiff]),(by simp only [FB,Nat.reduceEqDiff]),hC.app,hO'.app _,hpk⟩ (by omega)
 | some a=>
   rw [hx] at hnx
   simp only [Option.map_some,depV] at hnx
   have i2:posN P (gt S i).dst<50:=hno.lt _ (hno.dst _ hin)
   obtain ⟨j2,hj2⟩:=pos_yes (i:=0) (hno.dst _ hin)
   change findKey _ _ _=some (some (j2,.int .i64 (posN P (gt S i).dst:Int))) at hj2
   have hmG:=hC.get hm (hget_alive' hm) (by simp)
   have q3:∀X,hget (G'++X) R=.map (posV P):=fun X=>by rw [hget_old (hget_alive' hmG)];exact hmG
   have hT:=hTs _ (gt_mem hleft)
   have h16G:=hC.ext.sl h16
   have ld16:=fun X=>(h16G.app X).loadCell encT_len hleft i2
   rw [encT_get hT.1 i2] at ld16
   have ix16:=fun c (k:IntKind) (H1:Heap)=>h16G.idx (c:=c) (k:=k) (H1:=H1) hleft
   have z2:(0:Int)≤(posN P (gt S i).dst:Int):=by omega
   have z4:(posN P (gt S i).dst:Int)<50:=by omega
   by_cases hle:a+(gt S i).mins≤(gt Ts left).getD (posN P (gt S i).dst) (-1)
   case neg=>
    have e:pickOk (posN P) (gt Ts left) plant there (gt S i)=none:=by unfold pickOk;rw [if_pos hfr];simp only [hx];rw [if_neg hle]
    rw [e] at hpk
    simp only [n14,r14,g10,g16,g18,g19,g20,g21,g77,g78,g79,hlt,hld,hidx,hw1,encL_len,encL_0,encL_1,encL_2,encL_3,encL_4,encL_5,encL_6,encL_7,take_all,hlG,setAll_full,eq_true hfr,hnx,q3,hj2,ld16,ix16,z2,z4,eq_false hle,Nat.mul_one,SB,Nat.reduceLT,callee,aOp,ne_eq,Nat.reduceEqDiff,aBin,aUn,if_true,if_false,reduceCtorEq,frame0,place,notTuple,Nat.reduceAdd,Nat.reduceLeDiff,resVal,dite_true,dite_false,Int.reduceEq,Int.reduceLT,Int.reduceLE]
    exact hN (i+1) _ _ ⟨by omega,(by simp only [g10,FB,Nat.reduceEqDiff]),(by simp only [g16,FB,Nat.reduceEqDiff]),by rw [←g17];exact (by simp only [FB,Nat.reduceEqDiff]),(by simp only [g18,FB,Nat.reduceEqDiff]),(by simp only [g19,FB,Nat.reduceEqDiff]),(by simp only [g20,FB,Nat.reduceEqDiff]),(by simp only [g21,FB,Nat.reduceEqDiff]),(by simp only [g77,FB,Nat.reduceEqDiff]),(by simp only [g78,FB,Nat.reduceEqDiff]),(by simp only [FB,Nat.reduceEqDiff]),hC.app,hO'.app _,hpk⟩ (by omega)
   have e:pickOk (posN P) (gt Ts left) plant there (gt S i)=some (gt S i,a):=by unfold pickOk;rw [if_pos hfr];simp only [hx];rw [if_pos hle]
   rw [e] at hpk
   obtain ⟨G3,e3,O3,C3,hold3,l3,hn3⟩:=hO'.step (lim':=lim) (bytes:=24) hlim enc3_len (by decide) (stopOf (gt S i,a)) (by unfold maxBytes;omega) (by omega) (by omega) [.cells false (encL (gt S i)),.cells false [.int .i64 a,.int .i64 (a+(gt S i).mins)],.cells false (enc3 (stopOf (gt S i,a)))] (G'.length+2) 1 hget_new
   have e3':enc3 (stopOf (gt S i,a))=[.int .i64 (gt S i).id,.int .i64 a,.int .i64 (a+(gt S i).mins)]:=rfl
   rw [e3'] at e3 hn3
   have d0:hget (G3++[]) G'.length=.cells false (encL (gt S i)):=hn3 0 (by simp)
   have d1:hget (G3++[]) (G'.length+1)=.cells false [.int .i64 a,.int .i64 (a+(gt S i).mins)]:=hn3 1 (by simp)
   simp only [n14,r14,g10,g16,g18,g19,g20,g21,g77,g78,g79,hlt,hld,hidx,hw1,encL_len,encL_0,encL_1,encL_2,encL_3,encL_4,encL_5,encL_6,encL_7,take_all,hlG,setAll_full,eq_true hfr,hnx,q3,hj2,ld16,ix16,z2,z4,eq_true hle,Nat.mul_one,e3,d0,d1,SB,Nat.reduceLT,callee,aOp,ne_eq,Nat.reduceEqDiff,aBin,aUn,if_true,if_false,reduceCtorEq,frame0,place,notTuple,Nat.reduceAdd,Nat.reduceLeDiff,resVal,dite_true,dite_false,Int.reduceEq,Int.reduceLT,Int.reduceLE]
   have cH:=C3 [] H (Nat.le_refl _) hC
   rw [List.append_nil] at cH O3
   refine hR _ _ (some ⟨G'.length+3,0,none⟩) (loose 3) cH (by simp only [g10,FB,Nat.reduceEqDiff]) (by simp only [g16,FB,Nat.reduceEqDiff]) (by rw [←g17];exact (by simp only [FB,Nat.reduceEqDiff])) (by simp only [g21,FB,Nat.reduceEqDiff]) fun w' plant' there' h=>?_
   rw [hpk] at h
   obtain ⟨rfl,rfl,rfl⟩:=h
   refine ⟨?_,(by simp only [FB,Nat.reduceEqDiff]),(by simp only [FB,Nat.reduceEqDiff]),O3⟩
   simp only [List.length_append,List.length_cons,List.length_nil,Nat.zero_add]
   exact (by simp only [FB,Nat.reduceEqDiff])
theorem pickW_in {pos:Int→Nat} {S:List Leg} {late:List Int} {p t a:Int} {l:Leg} (h:pickW pos S late p t=some (l,a)):l∈S∧nextD l t=some a:=by
 unfold pickW at h
 obtain ⟨S1,x,S2,hSe,hx,hnone⟩:=List.findSome?_eq_some_iff.1 h
 obtain ⟨g1,g2,g3,g4⟩:=pickOk_some hx
 simp only at g2 g3
 subst g2
 exact ⟨by rw [hSe];simp,g3⟩
theorem Way_ok [OB] {lim:Nat} {pp pl:Option Addr} {P:List Int} {L:List Leg} {cp cl:Nat} {p q ready:Int} {H:Heap} {Q:Value→Heap→Prop} (hn:NetIn H pp pl P L) (hlim:lim≤H.length)
  (hbad:∀H',errA P L p q ready≠0→Chg [] H H'→Q (.tuple #[.slice none 0 0,.int .i64 (errA P L p q ready)]) H')
  (hnone:∀H',errA P L p q ready=0→IsArr L p ready q (-1)→Chg [] H H'→Q (.tuple #[.slice none 0 0,.int .i64 6]) H')
  (hok:∀H' v w pw cw,errA P L p q ready=0→Chg [] H H'→0≤v→IsArr L p ready q v→BestW L p ready q v w→w.length<2 ^ 30→Own H.length H' enc3 3 pw cw (w.map stopOf)→Q (.tuple #[.slice pw w.length cw,.int .i64 0]) H') :
  CallR E false lim 14 [.agg (netV pp P.length cp pl L.length cl).toArray,.int .i64 p,.int .i64 q,.int .i64 ready] H Q:=by
 refine runs' (by decide) e14 rfl ?_
 rw [b14,c14]
 simp only [n14,r14,netV_len,netV_0,netV_1,take_all,SB,Nat.reduceLT,callee,aOp,ne_eq,Nat.reduceEqDiff,aBin,aUn,if_true,if_false,reduceCtorEq,frame0,place,notTuple,Nat.reduceAdd,Nat.reduceLeDiff,resVal,dite_true,dite_false,Int.reduceEq,Int.reduceLT,Int.reduceLE]
 refine allowed_ok (hn.app _) (by simp;omega) (fun H' he hE=>?_) (fun H' R he hE hm hR=>?_)
 ·refine Ret_pad ?_
  simp only [n14,r14,he,eq_false he,SB,Nat.reduceLT,callee,aOp,ne_eq,Nat.reduceEqDiff,aBin,aUn,if_true,if_false,reduceCtorEq,frame0,place,notTuple,Nat.reduceAdd,Nat.reduceLeDiff,resVal,dite_true,dite_false,Int.reduceEq,Int.reduceLT,Int.reduceLE]
  exact hbad _ he (hE.chg.pre.app)
 obtain ⟨hv,hp,hq,hr,hr2⟩:=errA_0 he
 obtain ⟨v1,v2,v3,v4⟩:=validN_0 hv
 have hno:=valid_net hv
 have hlE:=hE.len
 simp only [List.length_append,List.length_cons,List.length_nil] at hlE hR
 have hnet:hget H' H.length=.cells false (netV pp P.length cp pl L.length cl):=hE.cells hget_new0
 have hnX:=fun X=>(Ext.refl.app (X:=X)).cells hnet
 have hEH:Ext H H':=by obtain ⟨Y,rfl⟩:=hE;rw [List.append_assoc];exact Ext.refl.app
 have hi:posN P q<50:=hno.lt _ hq
 obtain ⟨j1,hj1⟩:=pos_yes (i:=0) hq
 change findKey _ _ _=some (some (j1,.int .i64 (posN P q:Int))) at hj1
 have q3:∀X,hget (H'++X) R=.map (posV P):=fun X=>by rw [hget_old (hget_alive' hm)];exact hm
 refine Ret_pad ?_
 simp only [n14,r14,hnX,netV_len,netV_0,netV_1,take_all,q3,hj1,show lim≤H'.length by omega,SB,Nat.reduceLT,callee,aOp,ne_eq,Nat.reduceEqDiff,aBin,aUn,if_true,if_false,reduceCtorEq,frame0,place,notTuple,Nat.reduceAdd,Nat.reduceLeDiff,resVal,dite_true,dite_false,Int.reduceEq,Int.reduceLT,Int.reduceLE]
 refine arrivals_ok ((hn.ext hEH).app _) hv (q3 _) hp hr hr2 (by simp;omega) fun H2 q1 cap n hC hfix hnof hnn hO=>?_
 have hC':=hC.pre
 have hl2:=hC.len
 simp only [List.length_append,List.length_cons,List.length_nil] at hl2
 have hgoal:hget H2 H'.length=.cells false [.int .i64 (posN P q:Int)]:=hC.cells hget_new0 (by simp)
 have hgX:=fun X=>(Ext.refl.app (X:=X)).cells hgoal
 have hnet2:=hC'.cells hnet (by simp)
 have hn2X:=fun X=>(Ext.refl.app (X:=X)).cells hnet2
 have hlen:((List.range (n+1)).map (arrK 50 (posN P) (ready+86400) L p ready)).length=n+1:=by simp
 have hgt:∀k,k≤n→gt ((List.range (n+1)).map (arrK 50 (posN P) (ready+86400) L p ready)) k=arrK 50 (posN P) (ready+86400) L p ready k:=fun k hk=>by
  rw [gt_lt (by rw [hlen];omega)];simp
 have hS:=hO.sl encT_len
 have hld:=fun X=>(hS.app X).loadCell encT_len (i:=n) (j:=posN P q) (by rw [hlen];omega) hi
 rw [hgt n (Nat.le_refl _),encT_get arrK_len hi] at hld
 have hidx:=fun c (kk:IntKind) (H1:Heap)=>hS.idx (c:=c) (k:=kk) (H1:=H1) (i:=n) (by rw [hlen];omega)
 rw [hlen] at hidx
 have hw1:IntKind.i64.wrap (((n+1:Nat):Int)-1)=(n:Int):=by rw [wrap_id (by omega) (by omega)];omega
 have hv:=arrK_all hno hp hr (by omega:ready≤ready+86400) hfix q hq
 change IsArr L p ready q _ at hv
 generalize hve:(arrK 50 (posN P) (ready+86400) L p ready n).getD (posN P q) (-1)=v at *
 have z1:(0:Int)≤(posN P q:Int):=by omega
 have z2:(posN P q:Int)<50:=by omega
 have z3:posN P q≤49:=by omega
 refine Ret_pad ?_
 by_cases hvn:v<0
 ·simp only [n14,r14,hn2X,hgX,hidx,hld,hw1,z1,z2,z3,Nat.mul_one,netV_len,netV_0,netV_1,take_all,show lim≤H2.length by omega,eq_true hvn,SB,Nat.reduceLT,callee,aOp,ne_eq,Nat.reduceEqDiff,aBin,aUn,if_true,if_false,reduceCtorEq,frame0,place,notTuple,Nat.reduceAdd,Nat.reduceLeDiff,resVal,dite_true,dite_false,Int.reduceEq,Int.reduceLT,Int.reduceLE]
  refine hnone _ he ?_ ((hEH.chg.trans hC').app)
  rcases hv with ⟨rfl,h⟩ | ⟨⟨⟨j,hw⟩,_⟩,_⟩
  ·exact .inl ⟨rfl,h⟩
  ·have:=hw.later hno.fine;omega
 obtain ⟨k,hk,hkv,hkn⟩:=first_at (f:=fun k=>(arrK 50 (posN P) (ready+86400) L p ready k).getD (posN P q) (-1)) hve
 replace hkv:(arrK 50 (posN P) (ready+86400) L p ready k).getD (posN P q) (-1)=v:=hkv
 replace hkn:∀j,j<k→(arrK 50 (posN P) (ready+86400) L p ready j).getD (posN P q) (-1)≠v:=hkn
 have h71:=fun X (mp:Bool) (lim:Nat) (Q:Value→Heap→Prop)=>index_ok (mp:=mp) (lim:=lim) (Q:=Q) (k:=k) (cap:=cap) (t:=v) (B:=H2.length) (H:=H2++Blk.cells false [.int .i64 v]::X) hi (hgX _) hget_new0 (hS.app _) (fun T hT=>by obtain ⟨j,_,rfl⟩:=List.mem_map.1 hT;exact arrK_len) (by rw [hlen];omega) (by rw [hlen];omega) (by rw [hgt k hk];exact hkv) (fun j hj=>by rw [hgt j (by omega)];exact hkn j hj)
 rw [hlen] at h71
 have h67:=fun (H:Heap) (mp:Bool) (lim:Nat) (Q:Value→Heap→Prop)=>one_ok (mp:=mp) (lim:=lim) (H:=H) (Q:=Q) (i:=posN P q) (t:=v) hi
 have hE2:Ext H H2:=by obtain ⟨Y,rfl⟩:=hC'.ext;exact hEH.app
 have hm2:hget H2 R=.map (posV P):=hC'.get hm (hget_alive' hm) (by simp)
 have q32:∀X,hget (H2++X) R=.map (posV P):=fun X=>by rw [hget_old (hget_alive' hm2)];exact hm2
 have hv0:0≤v:=by omega
 have hvm:v≤maxTime:=by
  rcases hv with ⟨rfl,h⟩ | ⟨⟨⟨j,hw⟩,_⟩,_⟩
  ·omega
  ·cases hw with
   | nil=>exact hr2
   | snoc _ hl _ hd _=>
     obtain ⟨d,hd1,hd2,rfl⟩:=hd
     unfold goes at hd2
     simp only [Bool.and_eq_true,decide_eq_true_eq] at hd2
     exact hd2.2
 simp only [n14,r14,hn2X,hgX,hidx,hld,hw1,z1,z2,z3,Nat.mul_one,netV_len,netV_0,netV_1,take_all,show lim≤H2.length by omega,eq_false hvn,h71,h67,SB,Nat.reduceLT,callee,aOp,ne_eq,Nat.reduceEqDiff,aBin,aUn,if_true,if_false,reduceCtorEq,frame0,place,notTuple,Nat.reduceAdd,Nat.reduceLeDiff,resVal,dite_true,dite_false,Int.reduceEq,Int.reduceLT,Int.reduceLE]
 refine latest_ok (R:=R) (n0:=k) ((hn.ext hE2).app _) hno (q32 _) (okT_one hi (by omega)) (by omega) (by omega) (by simp;omega) fun H3 p3 cap3 hC3 hO3=>?_
 have hl3:=hC3.len
 simp only [List.length_append,List.length_cons,List.length_nil] at hl3
 have hC3':=hC3.pre
 have hnet3:=hC3'.cells hnet2 (by simp)
 have hn3X:=fun X=>(Ext.refl.app (X:=X)).cells hnet3
 have hE3:Ext H H3:=hE2.trans hC3'.ext
 have hm3:hget H3 R=.map (posV P):=hC3'.get hm2 (hget_alive' hm2) (by simp)
 have hlen3:((List.range (k+1)).map (exaF P L (oneT 50 (posN P q) v))).length=k+1:=by simp
 have hgt3:∀j,j≤k→gt ((List.range (k+1)).map (exaF P L (oneT 50 (posN P q) v))) j=exaK 50 (posN P) L q v j:=fun j hj=>by
  rw [gt_lt (by rw [hlen3];omega)];simp [exaF_exaK]
 have hS3:=hO3.sl encT_len
 refine Ret_pad ?_
 simp only [n14,r14,hn3X,netV_len,netV_0,netV_1,values_ok,SB,Nat.reduceLT,callee,aOp,ne_eq,Nat.reduceEqDiff,aBin,aUn,if_true,if_false,reduceCtorEq,frame0,place,notTuple,Nat.reduceAdd,Nat.reduceLeDiff,resVal,dite_true,dite_false,Int.reduceEq,Int.reduceLT,Int.reduceLE]
 refine sorted_ok (L:=L) (c:=cl) (p:=pl) hget_new0 ((hE3.app).sl hn.sl) v2 (by simp;omega) (legs_ids v4) fun H4 q4 cap4 S hC4 hS4 hperm hsorted hq4=>?_
 have hl4:=hC4.len
 simp only [List.length_append,List.length_cons,List.length_nil] at hl4
 have hC4':=hC4.pre
 have hE4:Ext H H4:=hE3.trans hC4'.ext
 have hm4:hget H4 R=.map (posV P):=hC4'.get hm3 (hget_alive' hm3) (by simp)
 have hS4T:=hC4'.ext.sl hS3
 have hmem:∀l,l∈S↔l∈L:=fun l=>hperm.mem_iff
 have hSl:S.length=L.length:=hperm.length_eq
 have hTok:∀T∈(List.range (k+1)).map (exaF P L (oneT 50 (posN P q) v)),okT T:=fun T hT=>by
  obtain ⟨j,_,rfl⟩:=List.mem_map.1 hT
  exact exaF_okT hno (okT_one hi (by omega)) j
 obtain ⟨hbest,hbl⟩:=goW_best hno hp hq hr hv0 hmem hsorted (late:=exaK 50 (posN P) L q v) (fun _=>rfl) hv hkv hkn
 generalize hTs:(List.range (k+1)).map (exaF P L (oneT 50 (posN P q) v))=Ts at *
 refine Ret_pad ?_
 have wk:IntKind.i64.wrap ((k:Int)-1)=(k:Int)-1:=wrap_id (by omega) (by omega)
 simp only [n14,r14,wk,SB,Nat.reduceLT,callee,aOp,ne_eq,Nat.reduceEqDiff,aBin,aUn,if_true,if_false,reduceCtorEq,frame0,place,notTuple,Nat.reduceAdd,Nat.reduceLeDiff,resVal,dite_true,dite_false,Int.reduceEq,Int.reduceLT,Int.reduceLE]
 refine Ret_rounds (fun s:(Nat×Int×Int)×List (Int×Int×Int)×Option Addr×Nat=>s.1.1) (fun s fr G=>fr 10=.map (some R)∧fr 16=.slice p3 Ts.length cap3∧fr 17=.slice q4 S.length cap4∧fr 18=.slice s.2.2.1 s.2.1.length s.2.2.2∧fr 19=.int .i64 s.1.2.1∧fr 20=.int .i64 s.1.2.2∧fr 21=.int .i64 ((s.1.1:Int)-1)∧s.1.1≤k∧Chg [] H4 G∧Own H4.length G enc3 3 s.2.2.1 s.2.2.2 s.2.1∧
   0≤s.1.2.2∧s.1.2.2≤maxTime∧s.2.1++(goW (posN P) S (exaK 50 (posN P) L q v) s.1.1 s.1.2.1 s.1.2.2).map stopOf=(goW (posN P) S (exaK 50 (posN P) L q v) k p ready).map stopOf∧s.2.1.length+s.1.1≤k) ((k,p,ready),[],none,0)
  ⟨(by simp only [FB,Nat.reduceEqDiff]),by rw [hlen3];exact (by simp only [FB,Nat.reduceEqDiff]),by rw [hSl];exact (by simp only [FB,Nat.reduceEqDiff]),(by simp only [List.length_nil,FB,Nat.reduceEqDiff]),(by simp only [FB,Nat.reduceEqDiff]),(by simp only [FB,Nat.reduceEqDiff]),by rfl,Nat.le_refl _,Chg.refl.app,.nil,hr,hr2,rfl,by simp⟩ ?_
 rintro ⟨⟨m,plant,there⟩,w,pw,cw⟩ fr G ⟨g10,g16,g17,g18,g19,g20,g21,hm1,hC5,hO5,ht0,ht1,htot,hwl⟩ hN
 simp only at g18 g19 g20 g21 hm1 hO5 ht0 ht1 htot hwl
 rw [Ret_code l14_2.eq_1]
 refine Ret_pad ?_
 match m,hm1,htot,hwl,g21,hN with
 | 0,hm1,htot,hwl,g21,hN=>
   have this:¬(0:Int)≤-1:=by decide
   replace g21:fr 21=.int .i64 (-1):=g21
   simp only [goW,List.map_nil,List.append_nil] at htot
   subst htot
   simp only [n14,r14,g10,g16,g17,g18,g19,g20,g21,eq_false this,SB,Nat.reduceLT,callee,aOp,ne_eq,Nat.reduceEqDiff,aBin,aUn,if_true,if_false,reduceCtorEq,frame0,place,notTuple,Nat.reduceAdd,Nat.reduceLeDiff,resVal,dite_true,dite_false,Int.reduceEq,Int.reduceLT,Int.reduceLE]
   rw [List.length_map]
   exact hok _ v _ pw cw he ((hE4.chg.trans hC5).app) hv0 hv hbest (by rw [hbl];omega) ((hO5.le (by omega)).app _)
 | m+1,hm1,htot,hwl,g21,hN=>
   have e1:((m+1:Nat):Int)-1=(m:Int):=by omega
   rw [e1] at g21
   have hmm:(0:Int)≤(m:Int):=by omega
   have hlm:m<Ts.length:=by rw [hlen3];omega
   have wm:IntKind.i64.wrap ((m:Int)-1)=(m:Int)-1:=wrap_id (by omega) (by omega)
   simp only [n14,r14,g10,g16,g17,g18,g19,g20,g21,eq_true hmm,SB,Nat.reduceLT,callee,aOp,ne_eq,Nat.reduceEqDiff,aBin,aUn,if_true,if_false,reduceCtorEq,frame0,place,notTuple,Nat.reduceAdd,Nat.reduceLeDiff,resVal,dite_true,dite_false,Int.reduceEq,Int.reduceLT,Int.reduceLE]
   refine way_inner (c16:=cap3) (cs:=cap4) (H:=H4) (S:=S) (L:=L) (left:=m) (Ts:=Ts) (w:=w) (q:=q4) (plant:=plant) (there:=there) hno (fun l hl=>(hmem l).1 hl) (by omega) hm4 (by omega) (hC5.app) hS4 hS4T hTok hlm (by rw [hlen3];omega) ⟨ht0,ht1⟩ (hO5.app _) (by omega) (by simp only [g10,FB,Nat.reduceEqDiff]) (by simp only [g16,FB,Nat.reduceEqDiff]) (by simp only [g18,FB,Nat.reduceEqDiff]) (by simp only [g19,FB,Nat.reduceEqDiff]) (by simp only [g20,FB,Nat.reduceEqDiff]) (by simp only [g21,FB,Nat.reduceEqDiff]) (by simp only [g17,FB,Nat.reduceEqDiff]) (by simp only [FB,Nat.reduceEqDiff]) (by simp only [FB,Nat.reduceEqDiff]) fun fr' G' pw' cw' hC6 k10 k16 k17 k21 hres=>?_
   have k17':fr' 17=.slice q4 S.length cap4:=k17.trans (by simp only [g17,FB,Nat.reduceEqDiff])
   have hgm:=hgt3 m (by omega)
   cases hpk:pickW (posN P) S (gt Ts m) plant there with
   | none=>
     obtain ⟨r18,r19,r20,rO⟩:=hres w plant there (by rw [hpk];exact ⟨rfl,rfl,rfl⟩)
     rw [hgm] at hpk
     simp only [goW,hpk] at htot
     simp only [n14,r14,k10,k16,k17',k21,r18,r19,r20,wm,SB,Nat.reduceLT,callee,aOp,ne_eq,Nat.reduceEqDiff,aBin,aUn,if_true,if_false,reduceCtorEq,frame0,place,notTuple,Nat.reduceAdd,Nat.reduceLeDiff,resVal,dite_true,dite_false,Int.reduceEq,Int.reduceLT,Int.reduceLE]
     exact hN ((m,plant,there),w,pw',cw') _ _ ⟨(by simp only [k10,FB,Nat.reduceEqDiff]),(by simp only [k16,FB,Nat.reduceEqDiff]),(by simp only [k17',FB,Nat.reduceEqDiff]),(by simp only [r18,FB,Nat.reduceEqDiff]),(by simp only [r19,FB,Nat.reduceEqDiff]),(by simp only [r20,FB,Nat.reduceEqDiff]),(by simp only [FB,Nat.reduceEqDiff]),by show m≤k;omega,hC6.app,rO.app _,ht0,ht1,htot,by show w.length+m≤k;omega⟩ (by show m<m+1;omega)
   | some r=>
     obtain ⟨l,a⟩:=r
     obtain ⟨r18,r19,r20,rO⟩:=hres (w++[stopOf (l,a)]) l.dst (a+l.mins) (by rw [hpk];exact ⟨rfl,rfl,rfl⟩)
     obtain ⟨hin,hnx⟩:=pickW_in hpk
     obtain ⟨n1,n2,n3⟩:=nextD_arr (hno.fine l ((hmem l).1 hin)) hnx
     have hfl:=hno.fine l ((hmem l).1 hin)
     unfold Fine at hfl
     rw [hgm] at hpk
     simp only [goW,hpk,List.map_cons] at htot
     simp only [n14,r14,k10,k16,k17',k21,r18,r19,r20,wm,SB,Nat.reduceLT,callee,aOp,ne_eq,Nat.reduceEqDiff,aBin,aUn,if_true,if_false,reduceCtorEq,frame0,place,notTuple,Nat.reduceAdd,Nat.reduceLeDiff,resVal,dite_true,dite_false,Int.reduceEq,Int.reduceLT,Int.reduceLE]
     exact hN ((m,l.dst,a+l.mins),w++[stopOf (l,a)],pw',cw') _ _ ⟨(by simp only [k10,FB,Nat.reduceEqDiff]),(by simp only [k16,FB,Nat.reduceEqDiff]),(by simp only [k17',FB,Nat.reduceEqDiff]),(by simp only [r18,FB,Nat.reduceEqDiff]),(by simp only [r19,FB,Nat.reduceEqDiff]),(by simp only [r20,FB,Nat.reduceEqDiff]),(by simp only [FB,Nat.reduceEqDiff]),by show m≤k;omega,hC6.app,rO.app _,by show 0≤a+l.mins;omega,n3,by rw [List.append_assoc];exact htot,by show (w++[stopOf (l,a)]).length+m≤k;rw [List.length_append];simp only [List.length_cons,List.length_nil];omega⟩ (by show m<m+1;omega)
theorem net_len {P:List Int} {L:List Leg} (h:NetOk 50 P L (posN P)):NetOk P.length P L (posN P):=⟨h.fine,h.frm,h.dst,h.inj,fun a ha=>List.idxOf_lt_length_of_mem ha⟩
theorem find_one {L:List Leg} (hid:∀a∈L,∀b∈L,a.id=b.id→a=b) {l:Leg} (hl:l∈L):L.find? (fun x=>x.id=l.id)=some l:=by
 cases h:L.find? (fun x=>x.id=l.id) with
 | none=>have:=List.find?_eq_none.1 h l hl;simp at this
 | some x=>
   have h1:=List.mem_of_find?_eq_some h
   have h2:=List.find?_some h
   simp only [decide_eq_true_eq] at h2
   rw [hid x h1 l hl h2]
theorem arr_can {P:List Int} {L:List Leg} {p t q e:Int} {k:Nat} (hn:NetOk 50 P L (posN P)) (hp:p∈P) (hq:q∈P) (ht:0≤t) (hte:t≤e):0≤(arrK P.length (posN P) e L p t k).getD (posN P q) (-1)↔∃j,j≤k∧∃v,v≤e∧Go.Net.Way L j p t q v:=by
 have h:=arrK_min (net_len hn) hp ht hte k q hq
 constructor
 ·intro h0
  obtain ⟨⟨j,hj,hw⟩,hle⟩:=h.mem h0
  exact ⟨j,hj,_,hle,hw⟩
 ·rintro ⟨j,hj,v,hv,hw⟩
  apply Decidable.byContradiction;intro hc
  exact h.none (fun u ⟨⟨i,_,hw⟩,_⟩=>by have:=hw.later hn.fine;omega) (by omega) v ⟨⟨j,hj,hw⟩,hv⟩
theorem arr_just {P:List Int} {L:List Leg} {p t q v:Int} {k:Nat} (hn:NetOk 50 P L (posN P)) (hp:p∈P) (hq:q∈P) (ht:0≤t) (hv:IsArr L p t q v) (hv0:0≤v)
  (hk:(arrK P.length (posN P) v L p t k).getD (posN P q) (-1)=v) (hno:∀j,j<k→(arrK P.length (posN P) v L p t j).getD (posN P q) (-1)≠v):Just L q v k p t:=by
 obtain ⟨hge,hlim⟩:=hv.ge hn.fine hv0
 have few:∀j u,Go.Net.Way L j p t q u→u≤v→k≤j:=fun j u hw hu=>by
  apply Decidable.byContradiction;intro hc
  have h0:=(arr_can (k:=j) hn hp hq ht hge).2 ⟨j,Nat.le_refl _,u,hu,hw⟩
  obtain ⟨⟨i,hi,hw2⟩,hl2⟩:=(arrK_min (net_len hn) hp ht hge j q hq).mem h0
  have h3:=hv.le (u:=(arrK P.length (posN P) v L p t j).getD (posN P q) (-1)) ⟨⟨i,hw2⟩,by omega⟩
  exact hno j (by omega) (by omega)
 have hm:=arrK_min (net_len hn) hp ht hge k q hq
 rw [hk] at hm
 obtain ⟨⟨i,hi,hw⟩,_⟩:=hm.mem hv0
 have:=few i v hw (Int.le_refl _)
 obtain rfl:i=k:=by omega
 exact ⟨⟨v,Int.le_refl _,hw⟩,few⟩
theorem arr_full {P:List Int} {L:List Leg} {p t q v:Int} (hn:NetOk 50 P L (posN P)) (hp:p∈P) (hq:q∈P) (ht:0≤t) (hv:IsArr L p t q v) (hv0:0≤v):(arrK P.length (posN P) v L p t P.length).getD (posN P q) (-1)=v:=by
 obtain ⟨hge,hlim⟩:=hv.ge hn.fine hv0
 refine (early_min hn hp ht hge hq).uniq (.inr ⟨⟨(hv.mem hv0).1,Int.le_refl _⟩,fun u hu=>?_⟩)
 exact hv.le ⟨hu.1,by omega⟩
theorem stops_loop [OB] {lim A cp cl:Nat} {pp pl:Option Addr} {P:List Int} {L:List Leg} {p q t v:Int} {H G0:Heap} {fr:Nat→Value} {K:List AItem} {Z:Value→Heap→Prop} (hn:NetIn H pp pl P L) (hv:validN P L=0) (hp:p∈P) (hq:q∈P) (ht:0≤t) (htm:t≤maxTime) (hV:IsArr L p t q v) (hv0:0≤v) (hlim:lim≤H.length) (hC0:Chg [] H G0)
  (hA:hget G0 A=.cells false (netV pp P.length cp pl L.length cl)) (f1:fr 1=.int .i64 p) (f3:fr 3=.int .i64 t) (f4:fr 4=.pointer (some ⟨A,0,none⟩)) (f11:fr 11=.int .i64 (posN P q:Int)) (f12:fr 12=.int .i64 v) (f13:fr 13=.int .i64 0)
  (hK:∀fr' G k,Chg [] G0 G→k≤P.length→Just L q v k p t→fr' 13=.int .i64 (k:Int)→(∀j,j≤12→fr' j=fr j)→Ret E a15 lim K fr' G Z) :
  Ret E a15 lim (.code (.loop l15_3)::.inBlock 0::K) fr G0 Z:=by
 have hno:=valid_net hv
 obtain ⟨v1,v2,v3,v4⟩:=validN_0 hv
 have mt:maxTime=1051898399:=rfl
 obtain ⟨hge,hlm⟩:=hV.ge hno.fine hv0
 refine Ret_rounds (fun k=>P.length-k) (fun k fr' G=>k≤P.length∧Chg [] G0 G∧fr' 13=.int .i64 (k:Int)∧(∀j,j≤12→fr' j=fr j)∧∀j,j<k→(arrK P.length (posN P) v L p t j).getD (posN P q) (-1)≠v) 0
  ⟨Nat.zero_le _,Chg.refl,by rw [f13];rfl,fun _ _=>rfl,fun j hj=>by omega⟩ ?_
 intro k fr' G ⟨hk,hC,g13,hfr,hall⟩ hN
 rw [Ret_code l15_3.eq_1]
 have g1:=(hfr 1 (by decide)).trans f1
 have g3:=(hfr 3 (by decide)).trans f3
 have g4:=(hfr 4 (by decide)).trans f4
 have g11:=(hfr 11 (by decide)).trans f11
 have g12:=(hfr 12 (by decide)).trans f12
 have hCH:=hC0.trans hC
 have hlG:=hCH.len
 have bA:=hC.cells hA (by simp)
 have bAX:=fun X=>(Ext.refl.app (X:=X)).cells bA
 have hnG:=hn.ext hCH.ext
 have hfr':∀(f:Nat→Value),(∀j,j≤12→f j=fr' j)→∀j,j≤12→f j=fr j:=fun f h j hj=>(h j hj).trans (hfr j hj)
 refine Ret_pad ?_
 simp only [n15,r15,g1,g3,g4,g11,g12,g13,bAX,netV_len,netV_0,netV_1,take_all,SB,Nat.reduceLT,callee,aOp,ne_eq,Nat.reduceEqDiff,aBin,aUn,if_true,if_false,reduceCtorEq,frame0,place,notTuple,Nat.reduceAdd,Nat.reduceLeDiff,resVal,dite_true,dite_false,Int.reduceEq,Int.reduceLT,Int.reduceLE]
 refine early_ok (hnG.app _) hv hp ht hge (by omega) (by omega) (by simp;omega) fun G2 q2 hC2 hO2=>?_
 have hCG2:Chg [] G G2:=hC2.pre
 have hqb:posN P q<P.length:=List.idxOf_lt_length_of_mem hq
 have sT:=hO2.sl encI_len
 have hTl:(arrK P.length (posN P) v L p t k).length=P.length:=arrK_len
 have lT:=ld_ints (i:=posN P q) sT (by omega)
 have xT:=ix_ints (i:=posN P q) sT hqb hTl
 rw [gt_getD (by omega)] at lT
 have w1:IntKind.i64.wrap ((k:Int)+1)=((k+1:Nat):Int):=wrap_nat (by omega)
 refine Ret_pad ?_
 by_cases hx:(arrK P.length (posN P) v L p t k).getD (posN P q) (-1)=v
 ·simp only [n15,r15,g1,g3,g4,g11,g12,g13,lT,xT,eq_true hx,SB,Nat.reduceLT,callee,aOp,ne_eq,Nat.reduceEqDiff,aBin,aUn,if_true,if_false,reduceCtorEq,frame0,place,notTuple,Nat.reduceAdd,Nat.reduceLeDiff,resVal,dite_true,dite_false,Int.reduceEq,Int.reduceLT,Int.reduceLE]
  exact hK _ _ k (hC.trans hCG2).app hk (arr_just hno hp hq ht hV hv0 hx hall) (by simp only [g13,FB,Nat.reduceEqDiff]) (hfr' _ fun j hj=>(by simp only [upd];repeat rw [if_neg (by omega)]))
 ·have hk':k<P.length:=by
   rcases Nat.lt_or_ge k P.length with h | h
   ·exact h
   ·obtain rfl:k=P.length:=by omega
    exact absurd (arr_full hno hp hq ht hV hv0) hx
  simp only [n15,r15,g1,g3,g4,g11,g12,g13,lT,xT,eq_false hx,w1,SB,Nat.reduceLT,callee,aOp,ne_eq,Nat.reduceEqDiff,aBin,aUn,if_true,if_false,reduceCtorEq,frame0,place,notTuple,Nat.reduceAdd,Nat.reduceLeDiff,resVal,dite_true,dite_false,Int.reduceEq,Int.reduceLT,Int.reduceLE]
  exact hN (k+1) _ _ ⟨by omega,(hC.trans hCG2).app,(by simp only [FB,Nat.reduceEqDiff]),hfr' _ fun j hj=>(by simp only [upd];repeat rw [if_neg (by omega)]),fun j hj=>by
    rcases Nat.lt_or_ge j k with h | h
    ·exact hall j h
    ·obtain rfl:j=k:=by omega
     exact hx⟩ (by omega)
def bestT (b:Option (Leg×Int)):Int×Int×Int:=match b with | some x=>stopOf x | none=>(0,0,0)
def Among (L M:List Leg) (q e:Int) (k:Nat) (p t:Int) (b:Option (Leg×Int)):Prop:=match b with
 | some (l,a)=>CanGo L q e k p t l a∧∀l'∈M,∀a',CanGo L q e k p t l' a'→l.id≤l'.id
 | none=>∀l'∈M,∀a',¬CanGo L q e k p t l' a'
theorem mem_take_succ {L:List Leg} {i:Nat} (hi:i<L.length) {l:Leg}:l∈L.take (i+1)↔l∈L.take i∨l=gt L i:=by
 rw [List.take_succ_eq_append_getElem hi,gt_lt hi,List.mem_append,List.mem_singleton]
theorem Among.keep {L:List Leg} {q e p t:Int} {k i:Nat} {b:Option (Leg×Int)} (h:Among L (L.take i) q e k p t b) (hi:i<L.length) (hno:∀a,CanGo L q e k p t (gt L i) a→∃x,b=some x∧x.1.id≤(gt L i).id):Among L (L.take (i+1)) q e k p t b:=by
 match b,h,hno with
 | none,h,hno=>
   intro l hl a hc
   rcases (mem_take_succ hi).1 hl with hl | rfl
   ·exact h l hl a hc
   ·obtain ⟨x,hx,_⟩:=hno a hc;cases hx
 | some (l0,a0),h,hno=>
   refine ⟨h.1,fun l hl a hc=>?_⟩
   rcases (mem_take_succ hi).1 hl with hl | rfl
   ·exact h.2 l hl a hc
   ·obtain ⟨x,hx,hle⟩:=hno a hc;cases hx;exact hle
theorem Among.up {L:List Leg} {q e p t a:Int} {k i:Nat} {b:Option (Leg×Int)} (h:Among L (L.take i) q e k p t b) (hi:i<L.length) (hc:CanGo L q e k p t (gt L i) a) (hle:∀x,b=some x→(gt L i).id≤x.1.id):Among L (L.take (i+1)) q e k p t (some (gt L i,a)):=by
 refine ⟨hc,fun l hl a' hc'=>?_⟩
 rcases (mem_take_succ hi).1 hl with hl | rfl
 ·match b,h,hle with
  | none,h,_=>exact absurd hc' (h l hl a')
  | some (l0,a0),h,hle=>have:=h.2 l hl a' hc';have:=hle _ rfl;simp only at this;omega
 ·exact Int.le_refl _
theorem best_legs [OB] {lim A R cp cl left:Nat} {pp pl:Option Addr} {P:List Int} {L:List Leg} {q v plant t:Int} {H G0:Heap} {fr:Nat→Value} {K:List AItem} {Z:Value→Heap→Prop} (hn:NetIn H pp pl P L) (hv:validN P L=0) (hq:q∈P) (ht:0≤t) (htm:t≤maxTime) (hvm:v≤maxTime) (hleft:left<2 ^ 40) (hlim:lim≤H.length) (hHR:H.length≤R) (hC0:Chg [] H G0) (hAR:A≠R)
  (hA:hget G0 A=.cells false (netV pp P.length cp pl L.length cl)) (hB:hget G0 R=.cells false [.int .i64 0,.int .i64 0,.int .i64 0])
  (f4:fr 4=.pointer (some ⟨A,0,none⟩)) (f11:fr 11=.int .i64 (posN P q:Int)) (f12:fr 12=.int .i64 v) (f15:fr 15=.int .i64 plant) (f16:fr 16=.int .i64 t) (f17:fr 17=.int .i64 (left:Int)) (f18:fr 18=.pointer (some ⟨R,0,none⟩)) (f19:fr 19=.int .i64 0)
  (hK:∀fr' G b,Chg [] H G→Chg [R] G0 G→Among L L q v left plant t b→hget G R=.cells false (enc3 (bestT b))→(∀j,j≤18→fr' j=fr j)→Ret E a15 lim K fr' G Z) :
  Ret E a15 lim (.code (.loop l15_1)::.inBlock 4::K) fr G0 Z:=by
 have hno:=valid_net hv
 obtain ⟨v1,v2,v3,v4⟩:=validN_0 hv
 have mt:maxTime=1051898399:=rfl
 refine Ret_rounds (fun s:Nat×Option (Leg×Int)=>L.length-s.1) (fun s fr' G=>s.1≤L.length∧Chg [] H G∧Chg [R] G0 G∧fr' 19=.int .i64 (s.1:Int)∧(∀j,j≤18→fr' j=fr j)∧hget G R=.cells false [.int .i64 (bestT s.2).1,.int .i64 (bestT s.2).2.1,.int .i64 (bestT s.2).2.2]∧Among L (L.take s.1) q v left plant t s.2) (0,none)
  ⟨Nat.zero_le _,hC0,Chg.refl,by rw [f19];rfl,fun _ _=>rfl,hB,fun l hl=>by simp at hl⟩ ?_
 rintro ⟨i,b⟩ fr' G ⟨hi,hC,hCR,g19,hfr,bB,hM⟩ hN
 simp only at hi g19 bB hM
 rw [Ret_code l15_1.eq_1]
 have g4:=(hfr 4 (by decide)).trans f4
 have g11:=(hfr 11 (by decide)).trans f11
 have g12:=(hfr 12 (by decide)).trans f12
 have g15:=(hfr 15 (by decide)).trans f15
 have g16:=(hfr 16 (by decide)).trans f16
 have g17:=(hfr 17 (by decide)).trans f17
 have g18:=(hfr 18 (by decide)).trans f18
 have hlG:=hC.len
 have hlL:lim≤G.length:=by omega
 have bA:=hCR.cells hA (by simpa using hAR)
 have bAX:=fun X=>(Ext.refl.app (X:=X)).cells bA
 have bBX:=fun X=>(Ext.refl.app (X:=X)).cells bB
 have hnG:=hn.ext hC.ext
 have hfr':∀(f:Nat→Value),(∀j,j≤18→f j=fr' j)→∀j,j≤18→f j=fr j:=fun f h j hj=>(h j hj).trans (hfr j hj)
 refine Ret_pad ?_
 by_cases hlt:i<L.length
 case neg=>
  obtain rfl:i=L.length:=by omega
  rw [List.take_length] at hM
  simp only [n15,r15,hlL,g4,g11,g12,g15,g16,g17,g18,g19,bAX,bBX,netV_len,netV_0,netV_1,encL_len,encL_0,encL_1,encL_2,encL_3,encL_4,encL_5,encL_6,encL_7,take_all,hlt,SB,Nat.reduceLT,callee,aOp,ne_eq,Nat.reduceEqDiff,aBin,aUn,if_true,if_false,reduceCtorEq,frame0,place,notTuple,Nat.reduceAdd,Nat.reduceLeDiff,resVal,dite_true,dite_false,Int.reduceEq,Int.reduceLT,Int.reduceLE]
  exact hK _ _ b hC.app hCR.app hM ((Ext.refl.app).cells bB) (hfr' _ fun j hj=>(by simp only [upd];repeat rw [if_neg (by omega)]))
 have hll:=gt_mem (l:=L) (i:=i) hlt
 have lL:=fun X=>(hnG.sl.app X).loadCells encL_len hlt
 have xL:=fun c (kk:IntKind) (H1:Heap)=>hnG.sl.idx (c:=c) (k:=kk) (H1:=H1) hlt
 have w1:IntKind.i64.wrap ((i:Int)+1)=((i+1:Nat):Int):=wrap_nat (by omega)
 have hkeep:=hM.keep hlt
 have hup:=fun a=>hM.up (a:=a) hlt
 have hF:=hno.fine _ hll
 have hd:=hno.dst _ hll
 have hnx:=fun (H:Heap) (mp:Bool) (lim:Nat) (Q:Value→Heap→Prop)=>rnext_ok (mp:=mp) (lim:=lim) (H:=H) (Q:=Q) (l:=gt L i) (r:=t) hF ht (by omega)
 generalize gt L i=l at *
 have hF':=hF
 unfold Fine at hF'
 rcases hnd:nextD l t with _ | a
 ·have hno2:∀a,CanGo L q v left plant t l a→∃x,b=some x∧x.1.id≤l.id:=fun a hc=>by have:=hc.2.2.1;rw [hnd] at this;cases this
  rw [hnd] at hnx
  simp only [Option.map_none,depV] at hnx
  by_cases hf:l.frm=plant
  ·simp only [n15,r15,hlL,g4,g11,g12,g15,g16,g17,g18,g19,bAX,bBX,netV_len,netV_0,netV_1,encL_len,encL_0,encL_1,encL_2,encL_3,encL_4,encL_5,encL_6,encL_7,take_all,hlt,lL,xL,w1,setAll_full,hnx,eq_true hf,SB,Nat.reduceLT,callee,aOp,ne_eq,Nat.reduceEqDiff,aBin,aUn,if_true,if_false,reduceCtorEq,frame0,place,notTuple,Nat.reduceAdd,Nat.reduceLeDiff,resVal,dite_true,dite_false,Int.reduceEq,Int.reduceLT,Int.reduceLE]
   exact hN (i+1,b) _ _ ⟨by show i+1≤L.length;omega,hC.app,hCR.app,(by simp only [FB,Nat.reduceEqDiff]),hfr' _ fun j hj=>(by simp only [upd];repeat rw [if_neg (by omega)]),(Ext.refl.app).cells bB,hkeep hno2⟩ (by show L.length-(i+1)<L.length-i;omega)
  ·simp only [n15,r15,hlL,g4,g11,g12,g15,g16,g17,g18,g19,bAX,bBX,netV_len,netV_0,netV_1,encL_len,encL_0,encL_1,encL_2,encL_3,encL_4,encL_5,encL_6,encL_7,take_all,hlt,lL,xL,w1,setAll_full,hnx,eq_false hf,SB,Nat.reduceLT,callee,aOp,ne_eq,Nat.reduceEqDiff,aBin,aUn,if_true,if_false,reduceCtorEq,frame0,place,notTuple,Nat.reduceAdd,Nat.reduceLeDiff,resVal,dite_true,dite_false,Int.reduceEq,Int.reduceLT,Int.reduceLE]
   exact hN (i+1,b) _ _ ⟨by show i+1≤L.length;omega,hC.app,hCR.app,(by simp only [FB,Nat.reduceEqDiff]),hfr' _ fun j hj=>(by simp only [upd];repeat rw [if_neg (by omega)]),(Ext.refl.app).cells bB,hkeep hno2⟩ (by show L.length-(i+1)<L.length-i;omega)
 rw [hnd] at hnx
 simp only [Option.map_some,depV] at hnx
 by_cases hf:l.frm=plant
 case neg=>
  have hno2:∀a,CanGo L q v left plant t l a→∃x,b=some x∧x.1.id≤l.id:=fun a hc=>absurd hc.2.1 hf
  simp only [n15,r15,hlL,g4,g11,g12,g15,g16,g17,g18,g19,bAX,bBX,netV_len,netV_0,netV_1,encL_len,encL_0,encL_1,encL_2,encL_3,encL_4,encL_5,encL_6,encL_7,take_all,hlt,lL,xL,w1,setAll_full,hnx,eq_false hf,SB,Nat.reduceLT,callee,aOp,ne_eq,Nat.reduceEqDiff,aBin,aUn,if_true,if_false,reduceCtorEq,frame0,place,notTuple,Nat.reduceAdd,Nat.reduceLeDiff,resVal,dite_true,dite_false,Int.reduceEq,Int.reduceLT,Int.reduceLE]
  exact hN (i+1,b) _ _ ⟨by show i+1≤L.length;omega,hC.app,hCR.app,(by simp only [FB,Nat.reduceEqDiff]),hfr' _ fun j hj=>(by simp only [upd];repeat rw [if_neg (by omega)]),(Ext.refl.app).cells bB,hkeep hno2⟩ (by show L.length-(i+1)<L.length-i;omega)
 obtain ⟨k1,k2,k3⟩:=nextD_arr hF hnd
 by_cases hle:a+l.mins≤v
 case neg=>
  have hno2:∀a,CanGo L q v left plant t l a→∃x,b=some x∧x.1.id≤l.id:=fun a' hc=>by
   have h1:=hc.2.2.1
   rw [hnd] at h1
   cases h1
   exact absurd hc.2.2.2.1 hle
  simp only [n15,r15,hlL,g4,g11,g12,g15,g16,g17,g18,g19,bAX,bBX,netV_len,netV_0,netV_1,encL_len,encL_0,encL_1,encL_2,encL_3,encL_4,encL_5,encL_6,encL_7,take_all,hlt,lL,xL,w1,setAll_full,hnx,eq_true hf,eq_true (show v<a+l.mins by omega),SB,Nat.reduceLT,callee,aOp,ne_eq,Nat.reduceEqDiff,aBin,aUn,if_true,if_false,reduceCtorEq,frame0,place,notTuple,Nat.reduceAdd,Nat.reduceLeDiff,resVal,dite_true,dite_false,Int.reduceEq,Int.reduceLT,Int.reduceLE]
  exact hN (i+1,b) _ _ ⟨by show i+1≤L.length;omega,hC.app,hCR.app,(by simp only [FB,Nat.reduceEqDiff]),hfr' _ fun j hj=>(by simp only [upd];repeat rw [if_neg (by omega)]),(Ext.refl.app).cells bB,hkeep hno2⟩ (by show L.length-(i+1)<L.length-i;omega)
 have hle':=eq_false (show ¬v<a+l.mins by omega)
 have hbid:∀x,b=some x→0<x.1.id:=fun x hx=>by
  subst hx
  obtain ⟨y,z⟩:=x
  have:=hno.fine _ hM.1.1
  unfold Fine at this
  show 0<y.id
  omega
 by_cases hb:0<(bestT b).1∧(bestT b).1<l.id
 ·have hno2:∀a,CanGo L q v left plant t l a→∃x,b=some x∧x.1.id≤l.id:=fun a' hc=>by
   cases hbe:b with
   | none=>rw [hbe] at hb;exact absurd hb.1 (by decide)
   | some x=>rw [hbe] at hb;exact ⟨x,rfl,by have:=hb.2;change x.1.id<l.id at this;omega⟩
  simp only [n15,r15,hlL,g4,g11,g12,g15,g16,g17,g18,g19,bAX,bBX,netV_len,netV_0,netV_1,encL_len,encL_0,encL_1,encL_2,encL_3,encL_4,encL_5,encL_6,encL_7,take_all,hlt,lL,xL,w1,setAll_full,hnx,eq_true hf,hle',eq_true hb.1,eq_true hb.2,SB,Nat.reduceLT,callee,aOp,ne_eq,Nat.reduceEqDiff,aBin,aUn,if_true,if_false,reduceCtorEq,frame0,place,notTuple,Nat.reduceAdd,Nat.reduceLeDiff,resVal,dite_true,dite_false,Int.reduceEq,Int.reduceLT,Int.reduceLE]
  exact hN (i+1,b) _ _ ⟨by show i+1≤L.length;omega,hC.app,hCR.app,(by simp only [FB,Nat.reduceEqDiff]),hfr' _ fun j hj=>(by simp only [upd];repeat rw [if_neg (by omega)]),(Ext.refl.app).cells bB,hkeep hno2⟩ (by show L.length-(i+1)<L.length-i;omega)
 have hbl:∀x,b=some x→l.id≤x.1.id:=fun x hx=>by
  have h1:=hbid x hx
  subst hx
  change ¬(0<x.1.id∧x.1.id<l.id) at hb
  omega
 by_cases hb1:0<(bestT b).1
 ·have hb2:¬(bestT b).1<l.id:=fun h=>hb ⟨hb1,h⟩
  simp only [n15,r15,hlL,g4,g11,g12,g15,g16,g17,g18,g19,bAX,bBX,netV_len,netV_0,netV_1,encL_len,encL_0,encL_1,encL_2,encL_3,encL_4,encL_5,encL_6,encL_7,take_all,hlt,lL,xL,w1,setAll_full,hnx,eq_true hf,hle',eq_true hb1,eq_false hb2,take_all,SB,Nat.reduceLT,callee,aOp,ne_eq,Nat.reduceEqDiff,aBin,aUn,if_true,if_false,reduceCtorEq,frame0,place,notTuple,Nat.reduceAdd,Nat.reduceLeDiff,resVal,dite_true,dite_false,Int.reduceEq,Int.reduceLT,Int.reduceLE]
  refine early_ok (hnG.app _) hv hd (by omega) hle (by omega) (by omega) (by simp;omega) fun G2 q2 hC2 hO2=>?_
  have hCG2:Chg [] G G2:=hC2.pre
  have bB2:=hCG2.cells bB (by simp)
  have bBX2:=fun X=>(Ext.refl.app (X:=X)).cells bB2
  have bAX2:=fun X=>(Ext.refl.app (X:=X)).cells (hCG2.cells bA (by simp))
  have bLX2:=fun X=>(Ext.refl.app (X:=X)).cells (hC2.cells (j:=G.length) (ro:=false) (c:=encL l) (by rw [hget_new0];rfl) (by simp))
  have bDX2:=fun X=>(Ext.refl.app (X:=X)).cells (hC2.cells (j:=G.length+1) (ro:=false) (c:=[.int .i64 a,.int .i64 (a+l.mins)]) (by rw [hget_new];rfl) (by simp))
  have hqb:posN P q<P.length:=List.idxOf_lt_length_of_mem hq
  have sT:=hO2.sl encI_len
  have hTl:(arrK P.length (posN P) v L l.dst (a+l.mins) left).length=P.length:=arrK_len
  have lT:=ld_ints (i:=posN P q) sT (by omega)
  have xT:=ix_ints (i:=posN P q) sT hqb hTl
  have hcan:=arr_can (k:=left) (t:=a+l.mins) hno hd hq (by omega) hle
  rw [gt_getD (by omega)] at lT
  generalize (arrK P.length (posN P) v L l.dst (a+l.mins) left).getD (posN P q) (-1)=x at *
  refine Ret_pad ?_
  by_cases hx:0≤x
  ·obtain ⟨G3,e3,k3,m3⟩:=mut_set (hget_alive bB2) (.cells false [.int .i64 l.id,.int .i64 a,.int .i64 (a+l.mins)])
   simp only [n15,r15,g4,g11,g12,g15,g16,g17,g18,g19,bAX2,bBX2,bLX2,bDX2,netV_len,netV_0,netV_1,encL_len,encL_0,encL_1,encL_2,encL_3,encL_4,encL_5,encL_6,encL_7,take_all,lT,xT,eq_true hx,setAll_full,show lim≤R by omega,e3,w1,SB,Nat.reduceLT,callee,aOp,ne_eq,Nat.reduceEqDiff,aBin,aUn,if_true,if_false,reduceCtorEq,frame0,place,notTuple,Nat.reduceAdd,Nat.reduceLeDiff,resVal,dite_true,dite_false,Int.reduceEq,Int.reduceLT,Int.reduceLE]
   exact hN (i+1,some (l,a)) _ _ ⟨by show i+1≤L.length;omega,((hC.trans hCG2).mut m3 (.inr hHR)).app,((hCR.trans' hCG2 fun j hj=>by simp at hj).mut m3 (.inl (by simp))).app,(by simp only [FB,Nat.reduceEqDiff]),hfr' _ fun j hj=>(by simp only [upd];repeat rw [if_neg (by omega)]),(Ext.refl.app).cells k3,hup a ⟨hll,hf,hnd,hle,hcan.1 hx⟩ hbl⟩ (by show L.length-(i+1)<L.length-i;omega)
  ·have hno2:∀a,CanGo L q v left plant t l a→∃x,b=some x∧x.1.id≤l.id:=fun a' hc=>by
    have h1:=hc.2.2.1
    rw [hnd] at h1
    cases h1
    exact absurd (hcan.2 hc.2.2.2.2) hx
   simp only [n15,r15,g4,g11,g12,g15,g16,g17,g18,g19,bAX2,bBX2,bLX2,bDX2,netV_len,netV_0,netV_1,encL_len,encL_0,encL_1,encL_2,encL_3,encL_4,encL_5,encL_6,encL_7,take_all,lT,xT,eq_false hx,w1,SB,Nat.reduceLT,callee,aOp,ne_eq,Nat.reduceEqDiff,aBin,aUn,if_true,if_false,reduceCtorEq,frame0,place,notTuple,Nat.reduceAdd,Nat.reduceLeDiff,resVal,dite_true,dite_false,Int.reduceEq,Int.reduceLT,Int.reduceLE]
   exact hN (i+1,b) _ _ ⟨by show i+1≤L.length;omega,(hC.trans hCG2).app,(hCR.trans' hCG2 fun j hj=>by simp at hj).app,(by simp only [FB,Nat.reduceEqDiff]),hfr' _ fun j hj=>(by simp only [upd];repeat rw [if_neg (by omega)]),(Ext.refl.app).cells bB2,hkeep hno2⟩ (by show L.length-(i+1)<L.length-i;omega)
 ·simp only [n15,r15,hlL,g4,g11,g12,g15,g16,g17,g18,g19,bAX,bBX,netV_len,netV_0,netV_1,encL_len,encL_0,encL_1,encL_2,encL_3,encL_4,encL_5,encL_6,encL_7,take_all,hlt,lL,xL,w1,setAll_full,hnx,eq_true hf,hle',eq_false hb1,take_all,SB,Nat.reduceLT,callee,aOp,ne_eq,Nat.reduceEqDiff,aBin,aUn,if_true,if_false,reduceCtorEq,frame0,place,notTuple,Nat.reduceAdd,Nat.reduceLeDiff,resVal,dite_true,dite_false,Int.reduceEq,Int.reduceLT,Int.reduceLE]
  refine early_ok (hnG.app _) hv hd (by omega) hle (by omega) (by omega) (by simp;omega) fun G2 q2 hC2 hO2=>?_
  have hCG2:Chg [] G G2:=hC2.pre
  have bB2:=hCG2.cells bB (by simp)
  have bBX2:=fun X=>(Ext.refl.app (X:=X)).cells bB2
  have bAX2:=fun X=>(Ext.refl.app (X:=X)).cells (hCG2.cells bA (by simp))
  have bLX2:=fun X=>(Ext.refl.app (X:=X)).cells (hC2.cells (j:=G.length) (ro:=false) (c:=encL l) (by rw [hget_new0];rfl) (by simp))
  have bDX2:=fun X=>(Ext.refl.app (X:=X)).cells (hC2.cells (j:=G.length+1) (ro:=false) (c:=[.int .i64 a,.int .i64 (a+l.mins)]) (by rw [hget_new];rfl) (by simp))
  have hqb:posN P q<P.length:=List.idxOf_lt_length_of_mem hq
  have sT:=hO2.sl encI_len
  have hTl:(arrK P.length (posN P) v L l.dst (a+l.mins) left).length=P.length:=arrK_len
  have lT:=ld_ints (i:=posN P q) sT (by omega)
  have xT:=ix_ints (i:=posN P q) sT hqb hTl
  have hcan:=arr_can (k:=left) (t:=a+l.mins) hno hd hq (by omega) hle
  rw [gt_getD (by omega)] at lT
  generalize (arrK P.length (posN P) v L l.dst (a+l.mins) left).getD (posN P q) (-1)=x at *
  refine Ret_pad ?_
  by_cases hx:0≤x
  ·obtain ⟨G3,e3,k3,m3⟩:=mut_set (hget_alive bB2) (.cells false [.int .i64 l.id,.int .i64 a,.int .i64 (a+l.mins)])
   simp only [n15,r15,g4,g11,g12,g15,g16,g17,g18,g19,bAX2,bBX2,bLX2,bDX2,netV_len,netV_0,netV_1,encL_len,encL_0,encL_1,encL_2,encL_3,encL_4,encL_5,encL_6,encL_7,take_all,lT,xT,eq_true hx,setAll_full,show lim≤R by omega,e3,w1,SB,Nat.reduceLT,callee,aOp,ne_eq,Nat.reduceEqDiff,aBin,aUn,if_true,if_false,reduceCtorEq,frame0,place,notTuple,Nat.reduceAdd,Nat.reduceLeDiff,resVal,dite_true,dite_false,Int.reduceEq,Int.reduceLT,Int.reduceLE]
   exact hN (i+1,some (l,a)) _ _ ⟨by show i+1≤L.length;omega,((hC.trans hCG2).mut m3 (.inr hHR)).app,((hCR.trans' hCG2 fun j hj=>by simp at hj).mut m3 (.inl (by simp))).app,(by simp only [FB,Nat.reduceEqDiff]),hfr' _ fun j hj=>(by simp only [upd];repeat rw [if_neg (by omega)]),(Ext.refl.app).cells k3,hup a ⟨hll,hf,hnd,hle,hcan.1 hx⟩ hbl⟩ (by show L.length-(i+1)<L.length-i;omega)
  ·have hno2:∀a,CanGo L q v left plant t l a→∃x,b=some x∧x.1.id≤l.id:=fun a' hc=>by
    have h1:=hc.2.2.1
    rw [hnd] at h1
    cases h1
    exact absurd (hcan.2 hc.2.2.2.2) hx
   simp only [n15,r15,g4,g11,g12,g15,g16,g17,g18,g19,bAX2,bBX2,bLX2,bDX2,netV_len,netV_0,netV_1,encL_len,encL_0,encL_1,encL_2,encL_3,encL_4,encL_5,encL_6,encL_7,take_all,lT,xT,eq_false hx,w1,SB,Nat.reduceLT,callee,aOp,ne_eq,Nat.reduceEqDiff,aBin,aUn,if_true,if_false,reduceCtorEq,frame0,place,notTuple,Nat.reduceAdd,Nat.reduceLeDiff,resVal,dite_true,dite_false,Int.reduceEq,Int.reduceLT,Int.reduceLE]
   exact hN (i+1,b) _ _ ⟨by show i+1≤L.length;omega,(hC.trans hCG2).app,(hCR.trans' hCG2 fun j hj=>by simp at hj).app,(by simp only [FB,Nat.reduceEqDiff]),hfr' _ fun j hj=>(by simp only [upd];repeat rw [if_neg (by omega)]),(Ext.refl.app).cells bB2,hkeep hno2⟩ (by show L.length-(i+1)<L.length-i;omega)
theorem ids_inj {L:List Leg} (h:L.Pairwise (fun a b=>a.id≠b.id)):∀a∈L,∀b∈L,a.id=b.id→a=b:=by
 intro a ha b hb e
 obtain ⟨i,hi,rfl⟩:=List.mem_iff_getElem.1 ha
 obtain ⟨j,hj,rfl⟩:=List.mem_iff_getElem.1 hb
 rw [List.pairwise_iff_getElem] at h
 rcases Nat.lt_trichotomy i j with h1 | h1 | h1
 ·exact absurd e (h i j hi hj h1)
 ·subst h1;rfl
 ·exact absurd e.symm (h j i hj hi h1)
theorem way_steps [OB] {lim A cp cl k:Nat} {pp pl:Option Addr} {P:List Int} {L:List Leg} {p q v ready:Int} {H G0:Heap} {fr:Nat→Value} {K:List AItem} {Z:Value→Heap→Prop} (hn:NetIn H pp pl P L) (hv:validN P L=0) (hq:q∈P) (h0:0≤ready) (h1:ready≤maxTime) (hvm:v≤maxTime) (hk50:k≤50) (hlim:lim≤H.length) (hC0:Chg [] H G0)
  (hA:hget G0 A=.cells false (netV pp P.length cp pl L.length cl)) (hHA:H.length≤A) (hJ:Just L q v k p ready) (f4:fr 4=.pointer (some ⟨A,0,none⟩)) (f11:fr 11=.int .i64 (posN P q:Int)) (f12:fr 12=.int .i64 v) (f14:fr 14=.slice none 0 0) (f15:fr 15=.int .i64 p) (f16:fr 16=.int .i64 ready) (f17:fr 17=.int .i64 ((k:Int)-1))
  (hK:∀fr' G w r c,Chg [] H G→Lowest L q v k p ready w→Own H.length G enc3 3 r c (w.map stopOf)→fr' 14=.slice r w.length c→Ret E a15 lim K fr' G Z) :
  Ret E a15 lim (.code (.loop l15_2)::.inBlock 2::K) fr G0 Z:=by
 have hno:=valid_net hv
 obtain ⟨v1,v2,v3,v4⟩:=validN_0 hv
 have mt:maxTime=1051898399:=rfl
 have hids:∀a∈L,∀b∈L,a.id=b.id→a=b:=ids_inj (legs_ids v4)
 refine Ret_rounds (fun s:Nat×(Int×Int)×List (Leg×Int)×Option Addr×Nat=>s.1) (fun s fr' G=>Chg [] H G∧hget G A=.cells false (netV pp P.length cp pl L.length cl)∧fr' 4=.pointer (some ⟨A,0,none⟩)∧fr' 11=.int .i64 (posN P q:Int)∧fr' 12=.int .i64 v∧fr' 14=.slice s.2.2.2.1 s.2.2.1.length s.2.2.2.2∧fr' 15=.int .i64 s.2.1.1∧fr' 16=.int .i64 s.2.1.2∧fr' 17=.int .i64 ((s.1:Int)-1)∧
   Own (A+1) G enc3 3 s.2.2.2.1 s.2.2.2.2 (s.2.2.1.map stopOf)∧0≤s.2.1.2∧s.2.1.2≤maxTime∧s.2.2.1.length+s.1=k∧Just L q v s.1 s.2.1.1 s.2.1.2∧∀w',Lowest L q v s.1 s.2.1.1 s.2.1.2 w'→Lowest L q v k p ready (s.2.2.1++w')) (k,(p,ready),[],none,0)
  ⟨hC0,hA,f4,f11,f12,f14,f15,f16,f17,.nil,h0,h1,by simp,hJ,fun w' h=>h⟩ ?_
 rintro ⟨m,⟨plant,t⟩,w,pw,cw⟩ fr' G ⟨hC,bA,g4,g11,g12,g14,g15,g16,g17,hO,ht,htm,hwk,hj,hlow⟩ hN
 simp only at g14 g15 g16 g17 hO ht htm hwk hj hlow
 rw [Ret_code l15_2.eq_1]
 have hlG:=hC.len
 have hlL:lim≤G.length:=by omega
 have bAX:=fun X=>(Ext.refl.app (X:=X)).cells bA
 refine Ret_pad ?_
 cases m with
 | zero=>
   have g17':fr' 17=.int .i64 (-1):=g17
   have hw:=hlow [] rfl
   rw [List.append_nil] at hw
   simp only [n15,r15,g4,g11,g12,g14,g15,g16,g17',eq_false (show ¬(0:Int)≤-1 by decide),SB,Nat.reduceLT,callee,aOp,ne_eq,Nat.reduceEqDiff,aBin,aUn,if_true,if_false,reduceCtorEq,frame0,place,notTuple,Nat.reduceAdd,Nat.reduceLeDiff,resVal,dite_true,dite_false,Int.reduceEq,Int.reduceLT,Int.reduceLE]
   exact hK _ _ w pw cw hC.app hw ((hO.le (by omega)).app _) (by simp only [g14,FB,Nat.reduceEqDiff])
 | succ m=>
 have e1:((m+1:Nat):Int)-1=(m:Int):=by omega
 rw [e1] at g17
 have c0:=eq_true (show (0:Int)≤(m:Int) by omega)
 have w5:IntKind.i64.wrap ((m:Int)-1)=(m:Int)-1:=wrap_id (by omega) (by omega)
 simp only [n15,r15,hlL,g4,g11,g12,g14,g15,g16,g17,c0,setAll_full,SB,Nat.reduceLT,callee,aOp,ne_eq,Nat.reduceEqDiff,aBin,aUn,if_true,if_false,reduceCtorEq,frame0,place,notTuple,Nat.reduceAdd,Nat.reduceLeDiff,resVal,dite_true,dite_false,Int.reduceEq,Int.reduceLT,Int.reduceLE]
 refine best_legs (A:=A) (R:=G.length) (cp:=cp) (cl:=cl) (left:=m) (plant:=plant) (t:=t) (v:=v) hn hv hq ht htm hvm (by omega) hlim hlG hC.app (by have:=hget_alive bA;omega) ((Ext.refl.app).cells bA) (by rw [hget_new0];rfl) (by simp only [g4,FB,Nat.reduceEqDiff]) (by simp only [g11,FB,Nat.reduceEqDiff]) (by simp only [g12,FB,Nat.reduceEqDiff]) (by simp only [g15,FB,Nat.reduceEqDiff]) (by simp only [g16,FB,Nat.reduceEqDiff]) (by simp only [g17,FB,Nat.reduceEqDiff]) (by simp only [FB,Nat.reduceEqDiff]) (by rfl) fun fr2 G2 b hC2 hCR hM hB2 hfr=>?_
 have k4:fr2 4=.pointer (some ⟨A,0,none⟩):=(hfr 4 (by decide)).trans (by simp only [g4,FB,Nat.reduceEqDiff])
 have k11:fr2 11=.int .i64 (posN P q:Int):=(hfr 11 (by decide)).trans (by simp only [g11,FB,Nat.reduceEqDiff])
 have k12:fr2 12=.int .i64 v:=(hfr 12 (by decide)).trans (by simp only [g12,FB,Nat.reduceEqDiff])
 have k14:fr2 14=.slice pw w.length cw:=(hfr 14 (by decide)).trans (by simp only [g14,FB,Nat.reduceEqDiff])
 have k17:fr2 17=.int .i64 (m:Int):=(hfr 17 (by decide)).trans (by simp only [g17,FB,Nat.reduceEqDiff])
 have k18:fr2 18=.pointer (some ⟨G.length,0,none⟩):=(hfr 18 (by decide)).trans (by simp only [FB,Nat.reduceEqDiff])
 match b,hM,hB2 with
 | none,hM,hB2=>
   obtain ⟨l,a,hc⟩:=hj.can hno.fine
   exact absurd hc (hM l hc.1 a)
 | some (l,a),hM,hB2=>
 obtain ⟨hc,hleast⟩:=hM
 have hlL:=hc.1
 have hF:=hno.fine _ hlL
 have hF':=hF
 unfold Fine at hF'
 obtain ⟨q1,q2,q3⟩:=nextD_arr hF hc.2.2.1
 have bA2:=hCR.cells ((Ext.refl.app).cells bA) (by have:=hget_alive bA;simp;omega)
 have bAX2:=fun X=>(Ext.refl.app (X:=X)).cells bA2
 replace hB2:hget G2 G.length=.cells false [.int .i64 l.id,.int .i64 a,.int .i64 (a+l.mins)]:=hB2
 have bBX2:=fun X=>(Ext.refl.app (X:=X)).cells hB2
 have hO2:=(hO.app _).chg hCR (fun b hb=>by have:=(hO.block hb).2;simp;omega)
 have hn2:=hn.ext hC2.ext
 have hl2:=hC2.len
 obtain ⟨G4,e4,O4,C4,hl4⟩:=Own.moreF hO2 (lim':=lim) (bytes:=24) (by omega) enc3_len (by decide) [stopOf (l,a)] (by simp) (by simp;unfold maxBytes;omega) (by simp;omega) [.cells false [.int .i64 l.id,.int .i64 a,.int .i64 (a+l.mins)]] (x:=.slice (some ⟨G2.length,0,none⟩) 1 1) (str:=false)
  (first_slice (m:=[stopOf (l,a)]) (Sl.row (ro:=false) enc3_len (by rw [hget_new0];rfl))) rfl
 have hpw:∀j,j∈opB pw→A+1≤j∧j<G.length:=fun j hj=>by
  cases hpe:pw with
  | none=>rw [hpe] at hj;cases hj
  | some x=>rw [hpe] at hj;have:=hO.block hpe;simp [opB] at hj;omega
 generalize hp':(G2++[Blk.cells false [.int .i64 l.id,.int .i64 a,.int .i64 (a+l.mins)]]).length=r at e4 O4 hl4
 generalize loose 3=c' at e4 O4
 simp only [List.length_cons,List.length_nil,Nat.zero_add,List.length_map] at e4
 have bA4:=C4.cells bA2 (fun h=>by have:=hpw _ h;omega)
 have bB4:=C4.cells hB2 (fun h=>by have:=hpw _ h;omega)
 have bAX4:=fun X=>(Ext.refl.app (X:=X)).cells bA4
 have bBX4:=fun X=>(Ext.refl.app (X:=X)).cells bB4
 have hC4:Chg [] H G4:=hC2.trans' C4 fun j hj hjl=>by have:=hpw j hj;omega
 have hn4:=hn.ext hC4.ext
 have hfd:=fun X (mp:Bool) (lim:Nat) (Q:Value→Heap→Prop)=>rfind_ok (mp:=mp) (lim:=lim) (cp:=cp) (cl:=cl) (a:=l.id) (Q:=Q) (hn4.app X)
 rw [find_one hids hlL] at hfd
 have hl4':=hC4.len
 have hlL4:lim≤G4.length:=by omega
 refine Ret_pad ?_
 simp only [n15,r15,k4,k11,k12,k14,k17,k18,bBX2,bAX2,e4,bAX4,bBX4,netV_len,netV_0,netV_1,encL_len,encL_0,encL_1,encL_2,encL_3,encL_4,encL_5,encL_6,encL_7,take_all,take_all,hfd,setAll_full,w5,hlL4,SB,Nat.reduceLT,callee,aOp,ne_eq,Nat.reduceEqDiff,aBin,aUn,if_true,if_false,reduceCtorEq,frame0,place,notTuple,Nat.reduceAdd,Nat.reduceLeDiff,resVal,dite_true,dite_false,Int.reduceEq,Int.reduceLT,Int.reduceLE]
 exact hN (m,(l.dst,a+l.mins),w++[(l,a)],some ⟨r,0,none⟩,c') _ _ ⟨hC4.app,(Ext.refl.app).cells bA4,(by simp only [k4,FB,Nat.reduceEqDiff]),(by simp only [k11,FB,Nat.reduceEqDiff]),(by simp only [k12,FB,Nat.reduceEqDiff]),by simp only [List.length_append,List.length_cons,List.length_nil,Nat.zero_add];exact (by simp only [FB,Nat.reduceEqDiff]),(by simp only [FB,Nat.reduceEqDiff]),(by simp only [FB,Nat.reduceEqDiff]),(by simp only [FB,Nat.reduceEqDiff]),by rw [List.map_append];exact (O4.le (by have:=hget_alive bA2;omega)).app _,by show 0≤a+l.mins;omega,q3,by rw [List.length_append];simp only [List.length_cons,List.length_nil];omega,hj.step hc,fun w' h=>by
  rw [List.append_assoc]
  exact hlow _ ⟨l,a,w',rfl,hc,fun l' a' h'=>hleast l' h'.1 a' h',h⟩⟩ (Nat.lt_succ_self _)
theorem RWay_ok [OB] {lim cp cl:Nat} {pp pl:Option Addr} {P:List Int} {L:List Leg} {p q ready:Int} {H:Heap} {Q:Value→Heap→Prop} (hn:NetIn H pp pl P L) (hlim:lim≤H.length)
  (hbad:∀G,errA P L p q ready≠0→Chg [] H G→Q (.tuple #[.slice none 0 0,.int .i64 (errA P L p q ready)]) G)
  (hnone:∀G,errA P L p q ready=0→IsArr L p ready q (-1)→Chg [] H G→Q (.tuple #[.slice none 0 0,.int .i64 6]) G)
  (hok:∀G v w r c,errA P L p q ready=0→Chg [] H G→0≤v→IsArr L p ready q v→BestW L p ready q v w→Own H.length G enc3 3 r c (w.map stopOf)→Q (.tuple #[.slice r w.length c,.int .i64 0]) G) :
  CallR E false lim 15 [.agg (netV pp P.length cp pl L.length cl).toArray,.int .i64 p,.int .i64 q,.int .i64 ready] H Q:=by
 refine runs' (by decide) e15 rfl ?_
 rw [b15,c15]
 have hck:=fun X (mp:Bool) (lim:Nat) (Q:Value→Heap→Prop)=>rcheck_ok (mp:=mp) (lim:=lim) (cp:=cp) (cl:=cl) (a:=p) (b:=q) (t:=ready) (Q:=Q) (hn.app X)
 by_cases he:errA P L p q ready=0
 case neg=>
  simp only [n15,r15,netV_len,netV_0,netV_1,take_all,hck,eq_false he,SB,Nat.reduceLT,callee,aOp,ne_eq,Nat.reduceEqDiff,aBin,aUn,if_true,if_false,reduceCtorEq,frame0,place,notTuple,Nat.reduceAdd,Nat.reduceLeDiff,resVal,dite_true,dite_false,Int.reduceEq,Int.reduceLT,Int.reduceLE]
  exact hbad _ he Chg.refl.app
 obtain ⟨hv,hp,hq,h0,h1⟩:=errA_0 he
 obtain ⟨v1,v2,v3,v4⟩:=validN_0 hv
 have hno:=valid_net hv
 have mt:maxTime=1051898399:=rfl
 have hids:∀a∈L,∀b∈L,a.id=b.id→a=b:=ids_inj (legs_ids v4)
 have hpq:=fun X (mp:Bool) (lim:Nat) (Q:Value→Heap→Prop)=>rplace_ok (mp:=mp) (lim:=lim) (cp:=cp) (cl:=cl) (p:=q) (Q:=Q) (hn.app X)
 rw [placeN,if_pos hq] at hpq
 rw [he] at hck
 have w1:IntKind.i64.wrap (ready+86400)=ready+86400:=wrap_id (by omega) (by omega)
 simp only [n15,r15,netV_len,netV_0,netV_1,take_all,hck,hpq,w1,SB,Nat.reduceLT,callee,aOp,ne_eq,Nat.reduceEqDiff,aBin,aUn,if_true,if_false,reduceCtorEq,frame0,place,notTuple,Nat.reduceAdd,Nat.reduceLeDiff,resVal,dite_true,dite_false,Int.reduceEq,Int.reduceLT,Int.reduceLE]
 refine early_ok (hn.app _) hv hp h0 (by omega) (by omega) (by omega) (by simp;omega) fun G q2 hC hO=>?_
 have hC':Chg [] H G:=hC.pre
 have bA:hget G H.length=.cells false (netV pp P.length cp pl L.length cl):=hC.cells hget_new0 (by simp)
 have bAX:=fun X=>(Ext.refl.app (X:=X)).cells bA
 have hqb:posN P q<P.length:=List.idxOf_lt_length_of_mem hq
 have sT:=hO.sl encI_len
 have hTl:(arrK P.length (posN P) (ready+86400) L p ready P.length).length=P.length:=arrK_len
 have lT:=ld_ints (i:=posN P q) sT (by omega)
 have xT:=ix_ints (i:=posN P q) sT hqb hTl
 have hV:=(early_arr hno hp h0).2 q hq
 rw [gt_getD (by omega)] at lT
 generalize (arrK P.length (posN P) (ready+86400) L p ready P.length).getD (posN P q) (-1)=v at *
 refine Ret_pad ?_
 by_cases hvn:v<0
 ·simp only [n15,r15,bAX,netV_len,netV_0,netV_1,lT,xT,eq_true hvn,SB,Nat.reduceLT,callee,aOp,ne_eq,Nat.reduceEqDiff,aBin,aUn,if_true,if_false,reduceCtorEq,frame0,place,notTuple,Nat.reduceAdd,Nat.reduceLeDiff,resVal,dite_true,dite_false,Int.reduceEq,Int.reduceLT,Int.reduceLE]
  refine hnone _ he ?_ hC'.app
  rcases hV with ⟨rfl,h⟩ | ⟨⟨⟨j,hw⟩,_⟩,_⟩
  ·exact .inl ⟨rfl,h⟩
  ·have:=hw.later hno.fine;omega
 have hv0:0≤v:=by omega
 have hvm:=arr_le hV h1 h0
 simp only [n15,r15,bAX,netV_len,netV_0,netV_1,lT,xT,eq_false hvn,SB,Nat.reduceLT,callee,aOp,ne_eq,Nat.reduceEqDiff,aBin,aUn,if_true,if_false,reduceCtorEq,frame0,place,notTuple,Nat.reduceAdd,Nat.reduceLeDiff,resVal,dite_true,dite_false,Int.reduceEq,Int.reduceLT,Int.reduceLE]
 refine stops_loop (A:=H.length) (cp:=cp) (cl:=cl) hn hv hp hq h0 h1 hV hv0 hlim hC'.app ((Ext.refl.app).cells bA) (by simp only [FB,Nat.reduceEqDiff]) (by simp only [FB,Nat.reduceEqDiff]) (by simp only [FB,Nat.reduceEqDiff]) (by simp only [FB,Nat.reduceEqDiff]) (by simp only [FB,Nat.reduceEqDiff]) (by rfl) fun fr2 G2 k hC2 hk hJ g13 hfr=>?_
 have k1:fr2 1=.int .i64 p:=(hfr 1 (by decide)).trans (by simp only [FB,Nat.reduceEqDiff])
 have k3:fr2 3=.int .i64 ready:=(hfr 3 (by decide)).trans (by simp only [FB,Nat.reduceEqDiff])
 have k4:fr2 4=.pointer (some ⟨H.length,0,none⟩):=(hfr 4 (by decide)).trans (by simp only [FB,Nat.reduceEqDiff])
 have k11:fr2 11=.int .i64 (posN P q:Int):=(hfr 11 (by decide)).trans (by simp only [FB,Nat.reduceEqDiff])
 have k12:fr2 12=.int .i64 v:=(hfr 12 (by decide)).trans (by simp only [FB,Nat.reduceEqDiff])
 have wk:IntKind.i64.wrap ((k:Int)-1)=(k:Int)-1:=wrap_id (by omega) (by omega)
 have hCH2:Chg [] H G2:=hC'.trans hC2.pre
 refine Ret_pad ?_
 simp only [n15,r15,k1,k3,k4,k11,k12,g13,wk,SB,Nat.reduceLT,callee,aOp,ne_eq,Nat.reduceEqDiff,aBin,aUn,if_true,if_false,reduceCtorEq,frame0,place,notTuple,Nat.reduceAdd,Nat.reduceLeDiff,resVal,dite_true,dite_false,Int.reduceEq,Int.reduceLT,Int.reduceLE]
 refine way_steps (A:=H.length) (cp:=cp) (cl:=cl) hn hv hq h0 h1 hvm (by omega) hlim hCH2.app ((Ext.refl.app).cells (hC2.cells ((Ext.refl.app).cells bA) (by simp))) (Nat.le_refl _) hJ (by simp only [k4,FB,Nat.reduceEqDiff]) (by simp only [k11,FB,Nat.reduceEqDiff]) (by simp only [k12,FB,Nat.reduceEqDiff]) (by simp only [FB,Nat.reduceEqDiff]) (by simp only [FB,Nat.reduceEqDiff]) (by simp only [FB,Nat.reduceEqDiff]) (by simp only [FB,Nat.reduceEqDiff]) fun fr3 G3 w r c hC3 hw hO3 k14=>?_
 refine Ret_pad ?_
 simp only [n15,r15,k14,SB,Nat.reduceLT,callee,aOp,ne_eq,Nat.reduceEqDiff,aBin,aUn,if_true,if_false,reduceCtorEq,frame0,place,notTuple,Nat.reduceAdd,Nat.reduceLeDiff,resVal,dite_true,dite_false,Int.reduceEq,Int.reduceLT,Int.reduceLE]
 exact hok _ v w r c he hC3.app hv0 hV (hw.best hno.fine hids hV hv0 hJ) (hO3.app _)
theorem arrL_uniq {P:List Int} {L:List Leg} {p t:Int} {T T':List Int} (hP:PlantsOk P) (h:arrL P L p t T) (h':arrL P L p t T'):T=T':=by
 refine same_all (h.1.trans h'.1.symm) fun j hj=>?_
 have hj':j<P.length:=by rw [←h.1];exact hj
 have h1:=h.2 _ (gt_mem hj')
 have h2:=h'.2 _ (gt_mem hj')
 have e:posN P (gt P j)=j:=hP.idx hj'
 rw [e] at h1 h2
 rw [gt_getD hj,gt_getD (by have:=h'.1;omega)]
 exact IsMin.uniq h1 h2
theorem latL_uniq {P:List Int} {L:List Leg} {q t:Int} {T T':List Int} (hP:PlantsOk P) (h:latL P L q t T) (h':latL P L q t T'):T=T':=by
 refine same_all (h.1.trans h'.1.symm) fun j hj=>?_
 have hj':j<P.length:=by rw [←h.1];exact hj
 have h1:=h.2 _ (gt_mem hj')
 have h2:=h'.2 _ (gt_mem hj')
 have e:posN P (gt P j)=j:=hP.idx hj'
 rw [e] at h1 h2
 rw [gt_getD hj,gt_getD (by have:=h'.1;omega)]
 exact IsMax.uniq h1 h2
noncomputable def arrT (P:List Int) (L:List Leg) (p t:Int):List Int:=open Classical in if h:errA P L p p t=0∧∃T,arrL P L p t T then h.2.choose else []
noncomputable def latT (P:List Int) (L:List Leg) (q t:Int):List Int:=open Classical in if h:errA P L q q t=0∧∃T,latL P L q t T then h.2.choose else []
theorem arrT_bad {P:List Int} {L:List Leg} {p t:Int} (h:errA P L p p t≠0):arrT P L p t=[]:=by unfold arrT;rw [dif_neg fun hh=>h hh.1]
theorem latT_bad {P:List Int} {L:List Leg} {q t:Int} (h:errA P L q q t≠0):latT P L q t=[]:=by unfold latT;rw [dif_neg fun hh=>h hh.1]
theorem arrT_ok {P:List Int} {L:List Leg} {p t:Int} {T:List Int} (h:errA P L p p t=0) (hT:arrL P L p t T):T=arrT P L p t:=by
 have hex:errA P L p p t=0∧∃T,arrL P L p t T:=⟨h,T,hT⟩
 unfold arrT
 rw [dif_pos hex]
 exact arrL_uniq (validN_0 (errA_0 h).1).2.2.1 hT hex.2.choose_spec
theorem latT_ok {P:List Int} {L:List Leg} {q t:Int} {T:List Int} (h:errA P L q q t=0) (hT:latL P L q t T):T=latT P L q t:=by
 have hex:errA P L q q t=0∧∃T,latL P L q t T:=⟨h,T,hT⟩
 unfold latT
 rw [dif_pos hex]
 exact latL_uniq (validN_0 (errA_0 h).1).2.2.1 hT hex.2.choose_spec
def Won (P:List Int) (L:List Leg) (p q t:Int) (w:List (Leg×Int)):Prop:=errA P L p q t=0∧∃v,0≤v∧IsArr L p t q v∧BestW L p t q v w
theorem Won.uniq {P:List Int} {L:List Leg} {p q t:Int} {w w':List (Leg×Int)} (h:Won P L p q t w) (h':Won P L p q t w'):w=w':=by
 obtain ⟨he,v,h0,hv,hw⟩:=h
 obtain ⟨_,v',h0',hv',hw'⟩:=h'
 have e:v=v':=IsMin.uniq hv hv'
 subst e
 exact BestW.uniq (fun _=>Iff.rfl) (ids_inj (legs_ids (validN_0 (errA_0 he).1).2.2.2)) hw hw'
noncomputable def wayT (P:List Int) (L:List Leg) (p q t:Int):List (Int×Int×Int):=open Classical in if h:∃w,Won P L p q t w then h.choose.map stopOf else []
noncomputable def wayE (P:List Int) (L:List Leg) (p q t:Int):Int:=open Classical in if errA P L p q t≠0 then errA P L p q t else if ∃w,Won P L p q t w then 0 else 6
theorem way_bad {P:List Int} {L:List Leg} {p q t:Int} (h:errA P L p q t≠0):wayT P L p q t=[]∧wayE P L p q t=errA P L p q t:=by
 unfold wayT wayE
 exact ⟨dif_neg fun ⟨_,hw,_⟩=>h hw,if_pos h⟩
theorem way_none {P:List Int} {L:List Leg} {p q t:Int} (h:errA P L p q t=0) (hn:IsArr L p t q (-1)):wayT P L p q t=[]∧wayE P L p q t=6:=by
 have hno:¬∃w,Won P L p q t w:=fun ⟨w,_,v,h0,hv,_⟩=>by
  have:=IsMin.uniq hn hv
  omega
 unfold wayT wayE
 exact ⟨dif_neg hno,by rw [if_neg (by simpa using h),if_neg hno]⟩
theorem way_won {P:List Int} {L:List Leg} {p q t:Int} {w:List (Leg×Int)} (h:Won P L p q t w):wayT P L p q t=w.map stopOf∧wayE P L p q t=0:=by
 have hex:∃w,Won P L p q t w:=⟨w,h⟩
 unfold wayT wayE
 rw [dif_pos hex,hex.choose_spec.uniq h,if_neg (by have:=h.1;simpa using this),if_pos hex]
 exact ⟨rfl,rfl⟩
theorem Won.len {P:List Int} {L:List Leg} {p q t:Int} {w:List (Leg×Int)} (h:Won P L p q t w):w.length≤50:=by
 obtain ⟨he,v,h0,hv,hw⟩:=h
 obtain ⟨h1,hp,hq,ht,_⟩:=errA_0 he
 obtain ⟨j',u',g1,g2,g3⟩:=way_short (valid_net h1) hp _ _ hw.way.way
 have:=hw.few j' u' g3 g2
 have:=(validN_0 h1).1
 omega
theorem arrT_len {P:List Int} {L:List Leg} {p t:Int}:(arrT P L p t).length≤50:=by
 unfold arrT
 split
 ·rename_i h
  have:=h.2.choose_spec.1
  have:=(validN_0 (errA_0 h.1).1).1
  omega
 ·simp
theorem latT_len {P:List Int} {L:List Leg} {p t:Int}:(latT P L p t).length≤50:=by
 unfold latT
 split
 ·rename_i h
  have:=h.2.choose_spec.1
  have:=(validN_0 (errA_0 h.1).1).1
  omega
 ·simp
theorem wayT_len {P:List Int} {L:List Leg} {p q t:Int}:(wayT P L p q t).length≤50:=by
 unfold wayT
 split
 ·rename_i h
  rw [List.length_map]
  exact h.choose_spec.len
 ·simp
section
variable {lim cp cl:Nat} {pp pl:Option Addr} {P:List Int} {L:List Leg} {p q t:Int} {H:Heap} {Q:Value→Heap→Prop}
theorem Arrive_same [OB] (hn:NetIn H pp pl P L) (hlim:lim≤H.length) (hQ:∀G r c,Chg [] H G→Sl G encI 1 r (arrT P L p t)→Q (.tuple #[.slice r (arrT P L p t).length c,.int .i64 (errA P L p p t)]) G) :
  CallR E false lim 9 [.agg (netV pp P.length cp pl L.length cl).toArray,.int .i64 p,.int .i64 t] H Q:=by
 refine Arrive_ok hn hlim (fun G h hC=>?_) (fun G r T h hC hT hO hl=>?_)
 ·have:=hQ G none 0 hC (by rw [arrT_bad h];rfl)
  rw [arrT_bad h] at this
  exact this
 ·have e:=arrT_ok h hT
  have:=hQ G r (loose 1) hC (by rw [←e];exact hO.sl encI_len)
  rw [←e,h,hl] at this
  exact this
theorem RArrive_same [OB] (hn:NetIn H pp pl P L) (hlim:lim≤H.length) (hQ:∀G r c,Chg [] H G→Sl G encI 1 r (arrT P L p t)→Q (.tuple #[.slice r (arrT P L p t).length c,.int .i64 (errA P L p p t)]) G) :
  CallR E false lim 10 [.agg (netV pp P.length cp pl L.length cl).toArray,.int .i64 p,.int .i64 t] H Q:=by
 refine RArrive_ok hn hlim (fun G h hC=>?_) (fun G r h hC hO=>?_)
 ·have:=hQ G none 0 hC (by rw [arrT_bad h];rfl)
  rw [arrT_bad h] at this
  exact this
 ·obtain ⟨hv,hp,_,ht0,ht1⟩:=errA_0 h
  have hT:=early_arr (valid_net hv) hp ht0
  have e:=arrT_ok h hT
  have hl:=hT.1
  have:=hQ G r (loose 1) hC (by rw [←e];exact hO.sl encI_len)
  rw [←e,h,hl] at this
  exact this
theorem Leave_same [OB] (hn:NetIn H pp pl P L) (hlim:lim≤H.length) (hQ:∀G r c,Chg [] H G→Sl G encI 1 r (latT P L q t)→Q (.tuple #[.slice r (latT P L q t).length c,.int .i64 (errA P L q q t)]) G) :
  CallR E false lim 12 [.agg (netV pp P.length cp pl L.length cl).toArray,.int .i64 q,.int .i64 t] H Q:=by
 refine Leave_ok hn hlim (fun G h hC=>?_) (fun G r T h hC hT hO hl=>?_)
 ·have:=hQ G none 0 hC (by rw [latT_bad h];rfl)
  rw [latT_bad h] at this
  exact this
 ·have e:=latT_ok h hT
  have:=hQ G r (loose 1) hC (by rw [←e];exact hO.sl encI_len)
  rw [←e,h,hl] at this
  exact this
theorem RLeave_same [OB] (hn:NetIn H pp pl P L) (hlim:lim≤H.length) (hQ:∀G r c,Chg [] H G→Sl G encI 1 r (latT P L q t)→Q (.tuple #[.slice r (latT P L q t).length c,.int .i64 (errA P L q q t)]) G) :
  CallR E false lim 13 [.agg (netV pp P.length cp pl L.length cl).toArray,.int .i64 q,.int .i64 t] H Q:=by
 refine RLeave_ok hn hlim (fun G h hC=>?_) (fun G r c T h hC hT hO=>?_)
 ·have:=hQ G none 0 hC (by rw [latT_bad h];rfl)
  rw [latT_bad h] at this
  exact this
 ·have e:=latT_ok h hT
  have:=hQ G r c hC (by rw [←e];exact hO.sl encI_len)
  rw [←e,h,hT.1] at this
  exact this
theorem Way_same [OB] (hn:NetIn H pp pl P L) (hlim:lim≤H.length) (hQ:∀G r c,Chg [] H G→Sl G enc3 3 r (wayT P L p q t)→Q (.tuple #[.slice r (wayT P L p q t).length c,.int .i64 (wayE P L p q t)]) G) :
  CallR E false lim 14 [.agg (netV pp P.length cp pl L.length cl).toArray,.int .i64 p,.int .i64 q,.int .i64 t] H Q:=by
 refine Way_ok hn hlim (fun G h hC=>?_) (fun G h hv hC=>?_) (fun G v w r c h hC h0 hv hw hwl hO=>?_)
 ·obtain ⟨e1,e2⟩:=way_bad h
  have:=hQ G none 0 hC (by rw [e1];rfl)
  rw [e1,e2] at this
  exact this
 ·obtain ⟨e1,e2⟩:=way_none h hv
  have:=hQ G none 0 hC (by rw [e1];rfl)
  rw [e1,e2] at this
  exact this
 ·obtain ⟨e1,e2⟩:=way_won ⟨h,v,h0,hv,hw⟩
  have:=hQ G r c hC (by rw [e1];exact hO.sl enc3_len)
  rw [e1,e2,List.length_map] at this
  exact this
theorem RWay_same [OB] (hn:NetIn H pp pl P L) (hlim:lim≤H.length) (hQ:∀G r c,Chg [] H G→Sl G enc3 3 r (wayT P L p q t)→Q (.tuple #[.slice r (wayT P L p q t).length c,.int .i64 (wayE P L p q t)]) G) :
  CallR E false lim 15 [.agg (netV pp P.length cp pl L.length cl).toArray,.int .i64 p,.int .i64 q,.int .i64 t] H Q:=by
 refine RWay_ok hn hlim (fun G h hC=>?_) (fun G h hv hC=>?_) (fun G v w r c h hC h0 hv hw hO=>?_)
 ·obtain ⟨e1,e2⟩:=way_bad h
  have:=hQ G none 0 hC (by rw [e1];rfl)
  rw [e1,e2] at this
  exact this
 ·obtain ⟨e1,e2⟩:=way_none h hv
  have:=hQ G none 0 hC (by rw [e1];rfl)
  rw [e1,e2] at this
  exact this
 ·obtain ⟨e1,e2⟩:=way_won ⟨h,v,h0,hv,hw⟩
  have:=hQ G r c hC (by rw [e1];exact hO.sl enc3_len)
  rw [e1,e2,List.length_map] at this
  exact this
end
theorem tells_ok [OB] {mp:Bool} {lim cp cl:Nat} {pp pl:Option Addr} {P:List Int} {L:List Leg} {a b t:Int} {H:Heap} {Q:Value→Heap→Prop} (hn:NetIn H pp pl P L) :
  CallR E mp lim 5 [.agg (netV pp P.length cp pl L.length cl).toArray,.int .i64 a,.int .i64 b,.int .i64 t] H Q=Q (.bool true) H:=by
 refine pc (by decide) e5 rfl rfl ?_
 rw [b5,c5]
 simp only [n5,r5,netV_len,netV_0,netV_1,take_all,SB,Nat.reduceLT,callee,aOp,ne_eq,Nat.reduceEqDiff,aBin,aUn,if_true,if_false,reduceCtorEq,frame0,place,notTuple,Nat.reduceAdd,Nat.reduceLeDiff,resVal,dite_true,dite_false,Int.reduceEq,Int.reduceLT,Int.reduceLE]
 refine Arrive_same (hn.app _) (by simp) fun G1 y1 z1 hC1 s1=>?_
 have hC1':=hC1.pre
 have b1:=hC1.cells hget_new0 (by simp)
 have b1X:=fun X=>(Ext.refl.app (X:=X)).cells b1
 have hn1:=hn.ext hC1'.ext
 have hl1:=hC1'.len
 refine Ret_pad ?_
 simp only [n5,r5,b1X,netV_len,netV_0,netV_1,take_all,SB,Nat.reduceLT,callee,aOp,ne_eq,Nat.reduceEqDiff,aBin,aUn,if_true,if_false,reduceCtorEq,frame0,place,notTuple,Nat.reduceAdd,Nat.reduceLeDiff,resVal,dite_true,dite_false,Int.reduceEq,Int.reduceLT,Int.reduceLE]
 refine RArrive_same (hn1.app _) (by simp;omega) fun G2 y2 z2 hC2 s2=>?_
 rw [List.append_nil] at hC2
 have hCH2:=hC1'.trans hC2
 have b2:=hC2.cells b1 (by simp)
 have b2X:=fun X=>(Ext.refl.app (X:=X)).cells b2
 have hn2:=hn.ext hCH2.ext
 have hl2:=hCH2.len
 have hs1:=fun X (mp:Bool) (lim:Nat) (Q:Value→Heap→Prop)=>sameints_ok (mp:=mp) (lim:=lim) (ca:=z1) (cb:=z2) (Q:=Q) ((hC2.ext.sl s1).app X) (s2.app X) (by have:=arrT_len (P:=P) (L:=L) (p:=a) (t:=t);omega)
 rw [decide_eq_true rfl] at hs1
 refine Ret_pad ?_
 simp only [n5,r5,b2X,netV_len,netV_0,netV_1,take_all,hs1,SB,Nat.reduceLT,callee,aOp,ne_eq,Nat.reduceEqDiff,aBin,aUn,if_true,if_false,reduceCtorEq,frame0,place,notTuple,Nat.reduceAdd,Nat.reduceLeDiff,resVal,dite_true,dite_false,Int.reduceEq,Int.reduceLT,Int.reduceLE]
 refine Leave_same (hn2.app _) (by simp;omega) fun G3 y3 z3 hC3 s3=>?_
 rw [List.append_nil] at hC3
 have hCH3:=hCH2.trans hC3
 have b3:=hC3.cells b2 (by simp)
 have b3X:=fun X=>(Ext.refl.app (X:=X)).cells b3
 have hn3:=hn.ext hCH3.ext
 have hl3:=hCH3.len
 refine Ret_pad ?_
 simp only [n5,r5,b3X,netV_len,netV_0,netV_1,take_all,SB,Nat.reduceLT,callee,aOp,ne_eq,Nat.reduceEqDiff,aBin,aUn,if_true,if_false,reduceCtorEq,frame0,place,notTuple,Nat.reduceAdd,Nat.reduceLeDiff,resVal,dite_true,dite_false,Int.reduceEq,Int.reduceLT,Int.reduceLE]
 refine RLeave_same (hn3.app _) (by simp;omega) fun G4 y4 z4 hC4 s4=>?_
 rw [List.append_nil] at hC4
 have hCH4:=hCH3.trans hC4
 have b4:=hC4.cells b3 (by simp)
 have b4X:=fun X=>(Ext.refl.app (X:=X)).cells b4
 have hn4:=hn.ext hCH4.ext
 have hl4:=hCH4.len
 have hs2:=fun X (mp:Bool) (lim:Nat) (Q:Value→Heap→Prop)=>sameints_ok (mp:=mp) (lim:=lim) (ca:=z3) (cb:=z4) (Q:=Q) ((hC4.ext.sl s3).app X) (s4.app X) (by have:=latT_len (P:=P) (L:=L) (p:=b) (t:=t);omega)
 rw [decide_eq_true rfl] at hs2
 refine Ret_pad ?_
 simp only [n5,r5,b4X,netV_len,netV_0,netV_1,take_all,hs2,SB,Nat.reduceLT,callee,aOp,ne_eq,Nat.reduceEqDiff,aBin,aUn,if_true,if_false,reduceCtorEq,frame0,place,notTuple,Nat.reduceAdd,Nat.reduceLeDiff,resVal,dite_true,dite_false,Int.reduceEq,Int.reduceLT,Int.reduceLE]
 refine Way_same (hn4.app _) (by simp;omega) fun G5 y5 z5 hC5 s5=>?_
 rw [List.append_nil] at hC5
 have hCH5:=hCH4.trans hC5
 have b5:=hC5.cells b4 (by simp)
 have b5X:=fun X=>(Ext.refl.app (X:=X)).cells b5
 have hn5:=hn.ext hCH5.ext
 have hl5:=hCH5.len
 refine Ret_pad ?_
 simp only [n5,r5,b5X,netV_len,netV_0,netV_1,take_all,SB,Nat.reduceLT,callee,aOp,ne_eq,Nat.reduceEqDiff,aBin,aUn,if_true,if_false,reduceCtorEq,frame0,place,notTuple,Nat.reduceAdd,Nat.reduceLeDiff,resVal,dite_true,dite_false,Int.reduceEq,Int.reduceLT,Int.reduceLE]
 refine RWay_same (hn5.app _) (by simp;omega) fun G6 y6 z6 hC6 s6=>?_
 rw [List.append_nil] at hC6
 have s5':=hC6.ext.sl s5
 have hwl:=wayT_len (P:=P) (L:=L) (p:=a) (q:=b) (t:=t)
 generalize wayT P L a b t=w at *
 refine Ret_pad ?_
 simp only [n5,r5,SB,Nat.reduceLT,callee,aOp,ne_eq,Nat.reduceEqDiff,aBin,aUn,if_true,if_false,reduceCtorEq,frame0,place,notTuple,Nat.reduceAdd,Nat.reduceLeDiff,resVal,dite_true,dite_false,Int.reduceEq,Int.reduceLT,Int.reduceLE]
 refine Ret_rounds (fun i=>w.length-i) (fun i fr G=>i≤w.length∧fr 13=.slice y5 w.length z5∧fr 14=.slice y6 w.length z6∧fr 15=.int .i64 (i:Int)∧Ext G6 G) 0 ⟨Nat.zero_le _,(by simp only [FB,Nat.reduceEqDiff]),(by simp only [FB,Nat.reduceEqDiff]),by rfl,Ext.refl.app⟩ ?_
 intro i fr G ⟨hi,g13,g14,g15,hE⟩ hN
 rw [Ret_code l5_1.eq_1]
 refine Ret_pad ?_
 by_cases hlt:i<w.length
 case neg=>simp only [n5,r5,g13,g14,g15,hlt,SB,Nat.reduceLT,callee,aOp,ne_eq,Nat.reduceEqDiff,aBin,aUn,if_true,if_false,reduceCtorEq,frame0,place,notTuple,Nat.reduceAdd,Nat.reduceLeDiff,resVal,dite_true,dite_false,Int.reduceEq,Int.reduceLT,Int.reduceLE]
 have wi:IntKind.i64.wrap ((i:Int)+1)=((i+1:Nat):Int):=wrap_nat (by omega)
 have sA:=hE.sl s5'
 have sB:=hE.sl s6
 have a0:=fun X=>(sA.app X).loadCell enc3_len (i:=i) (j:=0) hlt (by decide)
 have a1:=fun X=>(sA.app X).loadCell enc3_len (i:=i) (j:=1) hlt (by decide)
 have a2:=fun X=>(sA.app X).loadCell enc3_len (i:=i) (j:=2) hlt (by decide)
 have d0:=fun X=>(sB.app X).loadCell enc3_len (i:=i) (j:=0) hlt (by decide)
 have d1:=fun X=>(sB.app X).loadCell enc3_len (i:=i) (j:=1) hlt (by decide)
 have d2:=fun X=>(sB.app X).loadCell enc3_len (i:=i) (j:=2) hlt (by decide)
 have xA:=fun c (k:IntKind) (H1:Heap)=>sA.idx (c:=c) (k:=k) (H1:=H1) hlt
 have xB:=fun c (k:IntKind) (H1:Heap)=>sB.idx (c:=c) (k:=k) (H1:=H1) hlt
 simp only [enc3,List.getElem?_cons_zero,List.getElem?_cons_succ] at a0 a1 a2 d0 d1 d2
 simp only [n5,r5,g13,g14,g15,hlt,wi,a0,a1,a2,d0,d1,d2,xA,xB,SB,Nat.reduceLT,callee,aOp,ne_eq,Nat.reduceEqDiff,aBin,aUn,if_true,if_false,reduceCtorEq,frame0,place,notTuple,Nat.reduceAdd,Nat.reduceLeDiff,resVal,dite_true,dite_false,Int.reduceEq,Int.reduceLT,Int.reduceLE]
 exact hN (i+1) _ _ ⟨by omega,(by simp only [g13,FB,Nat.reduceEqDiff]),(by simp only [g14,FB,Nat.reduceEqDiff]),(by simp only [FB,Nat.reduceEqDiff]),hE.app⟩ (by omega)
def g1:Leg:=⟨1,1,2,600,60,0,0,127⟩
def g2:Leg:=⟨2,2,3,720,60,60,0,127⟩
def g3:Leg:=⟨3,1,3,540,300,0,0,127⟩
def P3:List Int:=[1,2,3]
def L3:List Leg:=[g1,g2,g3]
def M3:List Leg:=[g1,g3]
theorem val3:validN P3 L3=0:=by decide
theorem valM:validN P3 M3=0:=by decide
theorem net3 {L:List Leg} (h:validN P3 L=0):NetOk 3 P3 L (posN P3):=by
 have:=valid_net h
 exact ⟨this.fine,this.frm,this.dst,this.inj,fun a ha=>List.idxOf_lt_length_of_mem ha⟩
theorem p31:posN P3 1=0:=rfl
theorem p32:posN P3 2=1:=rfl
theorem p33:posN P3 3=2:=rfl
theorem lx {l:Leg} {b:Int} (d:Nat) (hl:l.days=127) (hd:d<730485) (h1:0≤1440*(d:Int)+l.dep-l.cut) (h2:1440*(d:Int)+l.dep+l.mins≤maxTime) (h3:1440*(d:Int)+l.dep+l.mins≤b) (h4:b<1440*((d:Int)+1)+l.dep+l.mins):lastD l b=some (1440*(d:Int)+l.dep):=
 lastD_is (by rw [dayN_eq];exact hd) (goes_all hl h1 h2) h3 fun d' hd' _ ⟨_,h⟩=>by omega
theorem an1:nextD g1 0=some 600:=nx 0 rfl (by decide) (by decide) (by decide) (by decide) (by decide)
theorem an3:nextD g3 0=some 540:=nx 0 rfl (by decide) (by decide) (by decide) (by decide) (by decide)
theorem an2:nextD g2 660=some 720:=nx 0 rfl (by decide) (by decide) (by decide) (by decide) (by decide)
theorem ax1':nextD g1 601=some 2040:=nx 1 rfl (by decide) (by decide) (by decide) (by decide) (by decide)
theorem ax3':nextD g3 601=some 1980:=nx 1 rfl (by decide) (by decide) (by decide) (by decide) (by decide)
theorem ax2':nextD g2 2100=some 2160:=nx 1 rfl (by decide) (by decide) (by decide) (by decide) (by decide)
theorem ab2:lastD g2 780=some 720:=lx 0 rfl (by decide) (by decide) (by decide) (by decide) (by decide)
theorem ab1:lastD g1 660=some 600:=lx 0 rfl (by decide) (by decide) (by decide) (by decide) (by decide)
theorem ab3:lastD g3 780=none:=lastD_no fun d' _ ⟨_,h⟩=>by
 have:(0:Int)≤d':=by omega
 simp only [g3] at h;omega
theorem s_a:stepA (posN P3) 86400 L3 [0,-1,-1]=[0,660,840]:=by
 simp [stepA,L3,useA,show g1.frm=1 from rfl,show g2.frm=2 from rfl,show g3.frm=1 from rfl,show g1.dst=2 from rfl,show g2.dst=3 from rfl,show g3.dst=3 from rfl,p31,p32,p33,an1,an3,show g1.mins=60 from rfl,show g3.mins=300 from rfl]
theorem s_b:stepA (posN P3) 86400 L3 [0,660,840]=[0,660,780]:=by
 simp [stepA,L3,useA,show g1.frm=1 from rfl,show g2.frm=2 from rfl,show g3.frm=1 from rfl,show g1.dst=2 from rfl,show g2.dst=3 from rfl,show g3.dst=3 from rfl,p31,p32,p33,an1,an3,an2,show g1.mins=60 from rfl,show g3.mins=300 from rfl,show g2.mins=60 from rfl]
theorem s_c:stepA (posN P3) 86400 L3 [0,660,780]=[0,660,780]:=by
 simp [stepA,L3,useA,show g1.frm=1 from rfl,show g2.frm=2 from rfl,show g3.frm=1 from rfl,show g1.dst=2 from rfl,show g2.dst=3 from rfl,show g3.dst=3 from rfl,p31,p32,p33,an1,an3,an2,show g1.mins=60 from rfl,show g3.mins=300 from rfl,show g2.mins=60 from rfl]
theorem s_d:stepA (posN P3) 87001 L3 [601,-1,-1]=[601,2100,2280]:=by simp [stepA,L3,useA,show g1.frm=1 from rfl,show g2.frm=2 from rfl,show g3.frm=1 from rfl,show g1.dst=2 from rfl,show g2.dst=3 from rfl,show g3.dst=3 from rfl,p31,p32,p33,show g1.mins=60 from rfl,show g3.mins=300 from rfl,show g2.mins=60 from rfl,show g1.cut=0 from rfl,show g2.cut=60 from rfl,show g3.cut=0 from rfl,ax1',ax3']
theorem s_e:stepA (posN P3) 87001 L3 [601,2100,2280]=[601,2100,2220]:=by simp [stepA,L3,useA,show g1.frm=1 from rfl,show g2.frm=2 from rfl,show g3.frm=1 from rfl,show g1.dst=2 from rfl,show g2.dst=3 from rfl,show g3.dst=3 from rfl,p31,p32,p33,show g1.mins=60 from rfl,show g3.mins=300 from rfl,show g2.mins=60 from rfl,show g1.cut=0 from rfl,show g2.cut=60 from rfl,show g3.cut=0 from rfl,ax1',ax3',ax2']
theorem s_f:stepA (posN P3) 87001 L3 [601,2100,2220]=[601,2100,2220]:=by simp [stepA,L3,useA,show g1.frm=1 from rfl,show g2.frm=2 from rfl,show g3.frm=1 from rfl,show g1.dst=2 from rfl,show g2.dst=3 from rfl,show g3.dst=3 from rfl,p31,p32,p33,show g1.mins=60 from rfl,show g3.mins=300 from rfl,show g2.mins=60 from rfl,show g1.cut=0 from rfl,show g2.cut=60 from rfl,show g3.cut=0 from rfl,ax1',ax3',ax2']
theorem s_g:stepA (posN P3) 86400 M3 [0,-1,-1]=[0,660,840]:=by simp [stepA,M3,useA,show g1.frm=1 from rfl,show g2.frm=2 from rfl,show g3.frm=1 from rfl,show g1.dst=2 from rfl,show g2.dst=3 from rfl,show g3.dst=3 from rfl,p31,p32,p33,show g1.mins=60 from rfl,show g3.mins=300 from rfl,show g2.mins=60 from rfl,show g1.cut=0 from rfl,show g2.cut=60 from rfl,show g3.cut=0 from rfl,an1,an3]
theorem s_h:stepA (posN P3) 86400 M3 [0,660,840]=[0,660,840]:=by simp [stepA,M3,useA,show g1.frm=1 from rfl,show g2.frm=2 from rfl,show g3.frm=1 from rfl,show g1.dst=2 from rfl,show g2.dst=3 from rfl,show g3.dst=3 from rfl,p31,p32,p33,show g1.mins=60 from rfl,show g3.mins=300 from rfl,show g2.mins=60 from rfl,show g1.cut=0 from rfl,show g2.cut=60 from rfl,show g3.cut=0 from rfl,an1,an3]
theorem s_i:stepA (posN P3) 86400 L3 [-1,-1,0]=[-1,-1,0]:=by simp [stepA,L3,useA,show g1.frm=1 from rfl,show g2.frm=2 from rfl,show g3.frm=1 from rfl,show g1.dst=2 from rfl,show g2.dst=3 from rfl,show g3.dst=3 from rfl,p31,p32,p33,show g1.mins=60 from rfl,show g3.mins=300 from rfl,show g2.mins=60 from rfl,show g1.cut=0 from rfl,show g2.cut=60 from rfl,show g3.cut=0 from rfl]
theorem s_j:stepB (posN P3) (-85620) L3 [-1,-1,780]=[-1,660,780]:=by simp [stepB,L3,useB,show g1.frm=1 from rfl,show g2.frm=2 from rfl,show g3.frm=1 from rfl,show g1.dst=2 from rfl,show g2.dst=3 from rfl,show g3.dst=3 from rfl,p31,p32,p33,show g1.mins=60 from rfl,show g3.mins=300 from rfl,show g2.mins=60 from rfl,show g1.cut=0 from rfl,show g2.cut=60 from rfl,show g3.cut=0 from rfl,ab2,ab3]
theorem s_k:stepB (posN P3) (-85620) L3 [-1,660,780]=[600,660,780]:=by simp [stepB,L3,useB,show g1.frm=1 from rfl,show g2.frm=2 from rfl,show g3.frm=1 from rfl,show g1.dst=2 from rfl,show g2.dst=3 from rfl,show g3.dst=3 from rfl,p31,p32,p33,show g1.mins=60 from rfl,show g3.mins=300 from rfl,show g2.mins=60 from rfl,show g1.cut=0 from rfl,show g2.cut=60 from rfl,show g3.cut=0 from rfl,ab2,ab3,ab1]
theorem s_l:stepB (posN P3) (-85620) L3 [600,660,780]=[600,660,780]:=by simp [stepB,L3,useB,show g1.frm=1 from rfl,show g2.frm=2 from rfl,show g3.frm=1 from rfl,show g1.dst=2 from rfl,show g2.dst=3 from rfl,show g3.dst=3 from rfl,p31,p32,p33,show g1.mins=60 from rfl,show g3.mins=300 from rfl,show g2.mins=60 from rfl,show g1.cut=0 from rfl,show g2.cut=60 from rfl,show g3.cut=0 from rfl,ab2,ab3,ab1]
theorem three_eq {L:List Leg} {T A:List Int} (ha:A.length=3) (hl:T.length=3) (h:∀q∈P3,T.getD (posN P3 q) (-1)=A.getD (posN P3 q) (-1)):T=A:=by
 match T,A,hl,ha with
 | [a,b,c],[x,y,z],_,_=>
   have h1:=h 1 (by decide)
   have h2:=h 2 (by decide)
   have h3:=h 3 (by decide)
   rw [p31] at h1;rw [p32] at h2;rw [p33] at h3
   simp at h1 h2 h3
   rw [h1,h2,h3]
theorem arr_is {L:List Leg} {p r:Int} {A T:List Int} {k:Nat} (hv:validN P3 L=0) (hp:p∈P3) (hr:0≤r) (hk:arrK 3 (posN P3) (r+86400) L p r k=A) (hs:stepA (posN P3) (r+86400) L A=A) (h:arrL P3 L p r T):T=A:=by
 have hl:A.length=3:=by rw [←hk];exact arrK_len
 refine three_eq (L:=L) hl h.1 fun q hq=>?_
 have h1:=arrK_all (net3 hv) hp hr (by omega:r≤r+86400) (k:=k) (by rw [arrK,hk,hs]) q hq
 rw [hk] at h1
 exact (h.2 q hq).uniq h1
theorem aw1 {T:List Int} (h:arrL P3 L3 1 0 T):T=[0,660,780]:=
 arr_is (k:=2) val3 (by decide) (by decide) (by rw [arrK,arrK,arrK];exact (congrArg _ s_a).trans s_b) s_c h
theorem aw2 {T:List Int} (h:arrL P3 L3 1 601 T):T=[601,2100,2220]:=
 arr_is (k:=2) val3 (by decide) (by decide) (by rw [arrK,arrK,arrK];exact (congrArg _ s_d).trans s_e) s_f h
theorem aw3 {T:List Int} (h:arrL P3 M3 1 0 T):T=[0,660,840]:=
 arr_is (k:=1) valM (by decide) (by decide) (by rw [arrK,arrK];exact s_g) s_h h
theorem aw4 {v:Int} (h:IsArr L3 3 0 1 v):v=-1:=by
 have h1:=arrK_all (net3 val3) (p:=3) (by decide) (Int.le_refl 0) (by decide:(0:Int)≤0+86400) (k:=0) (by rw [arrK,arrK];exact s_i) 1 (by decide)
 exact h.uniq h1
theorem aw5 {T:List Int} (h:latL P3 L3 3 780 T):T=[600,660,780]:=by
 have hk:latK 3 (posN P3) (780-86400) L3 3 780 2=[600,660,780]:=by rw [latK,latK,latK];exact (congrArg _ s_j).trans s_k
 refine three_eq (L:=L3) rfl h.1 fun q hq=>?_
 have h1:=latK_all (net3 val3) (q:=3) (dl:=780) (low:=780-86400) (by decide) (by decide) (by decide) (k:=2) (by rw [latK,hk];exact s_l) q hq
 rw [hk] at h1
 exact (h.2 q hq).uniq h1
theorem aw6 {v:Int} {w:List (Leg×Int)} (hv:IsArr L3 1 0 3 v) (h:BestW L3 1 0 3 v w):v=780∧w=[(g1,600),(g2,720)]:=by
 have hk:arrK 3 (posN P3) (0+86400) L3 1 0 2=[0,660,780]:=by rw [arrK,arrK,arrK];exact (congrArg _ s_a).trans s_b
 have h1:=arrK_all (net3 val3) (p:=1) (by decide) (Int.le_refl 0) (by decide:(0:Int)≤0+86400) (k:=2) (by rw [arrK,hk];exact s_c) 3 (by decide)
 rw [hk] at h1
 have e:v=780:=hv.uniq h1
 subst e
 refine ⟨rfl, ?_⟩
 have hin:∀l,l∈L3↔l=g1∨l=g2∨l=g3:=fun l=>by simp [L3]
 have d1:Dep g1 600:=(nextD_some an1).1
 have d2:Dep g2 720:=(nextD_some an2).1
 have late3:∀a,Dep g3 a→540≤a:=fun a hd=>(nextD_some an3).2.2 a hd (by obtain ⟨d,_,_,rfl⟩:=hd;simp only [g3];omega)
 have hids:∀a∈L3,∀b∈L3,a.id=b.id→a=b:=by
  intro a ha b hb e
  rw [hin] at ha hb
  have i1:g1.id=1:=rfl
  have i2:g2.id=2:=rfl
  have i3:g3.id=3:=rfl
  rcases ha with rfl | rfl | rfl
  ·rcases hb with rfl | rfl | rfl
   ·rfl
   ·omega
   ·omega
  ·rcases hb with rfl | rfl | rfl
   ·omega
   ·rfl
   ·omega
  ·rcases hb with rfl | rfl | rfl
   ·omega
   ·omega
   ·rfl
 have hway:IsWay L3 1 0 [(g1,600),(g2,720)] 3 780:=⟨(hin g1).2 (.inl rfl),rfl,d1,by decide,(hin g2).2 (.inr (.inl rfl)),rfl,d2,by decide,rfl,rfl⟩
 refine BestW.uniq (M:=L3) (fun _=>Iff.rfl) hids h ⟨hway,fun j v' hw hv'=>?_,fun w' v' hw hv' hl hlex=>?_,an1,an2,trivial⟩
 ·have z:∀{p t q u:Int},Go.Net.Way L3 0 p t q u→p=q∧t=u:=fun h=>by
   generalize hk:0=k at h
   cases h with
   | nil=>exact ⟨rfl,rfl⟩
   | snoc=>omega
  show 2≤j
  apply Decidable.byContradiction;intro hc
  rcases (show j=0∨j=1 by omega) with rfl | rfl
  ·have:=(z hw).1;omega
  ·obtain ⟨l,hl,a,hf,hd,_,hw2⟩:=hw.head
   obtain ⟨e1,e2⟩:=z hw2
   rw [hin] at hl
   rcases hl with rfl | rfl | rfl
   ·have:g1.dst=2:=rfl
    omega
   ·have:g2.frm=2:=rfl
    omega
   ·have:=late3 a hd
    have e:g3.mins=300:=rfl
    omega
 ·obtain ⟨l,a,r,rfl⟩:∃l a r,w'=(l,a)::r:=by
   cases w' with
   | nil=>simp at hl
   | cons x r=>exact ⟨x.1,x.2,r,rfl⟩
  obtain ⟨l',a',r',rfl⟩:∃l a r',r=(l,a)::r':=by
   cases r with
   | nil=>simp at hl
   | cons x r=>exact ⟨x.1,x.2,r,rfl⟩
  obtain rfl:r'=[]:=by
   cases r' with
   | nil=>rfl
   | cons x r=>simp at hl
  simp only [idsW,List.map_cons,List.map_nil,lexL,and_false,or_false] at hlex
  obtain ⟨k1,k2,k3,k4,k5,k6,k7,k8,k9⟩:=hw
  rw [hin] at k1 k5
  have i1:g1.id=1:=rfl
  have i2:g2.id=2:=rfl
  have i3:g3.id=3:=rfl
  have f1:g1.frm=1:=rfl
  have f2:g2.frm=2:=rfl
  have t1:g1.dst=2:=rfl
  rcases k1 with rfl | rfl | rfl
  ·rcases k5 with rfl | rfl | rfl
   ·omega
   ·omega
   ·omega
  ·omega
  ·omega
theorem sliceV_nil {e:Nat}:sliceV e (.slice none 0 0) none (some (.int .i64 0)) none=some (.slice none 0 0):=by
 unfold sliceV aSliceS
 have h:¬0=loose e:=by unfold loose;omega
 simp only [if_neg h,bounds_V,Option.map_some,Option.map_none,unV]
 rw [bv_010 (by decide) (by decide)]
 simp
theorem sliceV_none {e b n:Nat}:sliceV e (.slice (some ⟨b,0,none⟩) n (loose e)) none (some (.int .i64 0)) none=some (.slice (some ⟨b,0,none⟩) 0 (loose e)):=by
 unfold sliceV aSliceS
 simp only [if_true,bounds_V,Option.map_some,Option.map_none,unV]
 rw [bv_010 (by decide) (by omega)]
 simp [addr_add]
theorem grow_ok [OB] {lim n:Nat} {H:Heap} {Q:Value→Heap→Prop} (hn:n<2 ^ 30) (hlim:lim≤H.length)
  (h0:n=0→∀X,Q (.slice none 0 0) (H++X)) (h1:n≠0→∀z,Q (.slice (some ⟨H.length,0,none⟩) 0 (loose 8)) (H++[.cells false z])) :
  CallR E false lim 55 [.slice none 0 0,.int .i64 (n:Int)] H Q:=by
 refine runs' (by decide) e55 rfl ?_
 rw [b55,c55]
 have hc:¬(n:Int)<0:=by omega
 have w1:IntKind.i64.wrap (n:Int)=(n:Int):=wrap_id (by omega) (by omega)
 have w0:IntKind.i64.wrap 0=0:=by decide
 by_cases hz:n=0
 ·subst hz
  simp only [n55,r55,w0,Int.sub_self,show (0:Nat)<2 ^ 62 by decide,SB,Nat.reduceLT,callee,aOp,ne_eq,Nat.reduceEqDiff,aBin,aUn,if_true,if_false,reduceCtorEq,frame0,place,notTuple,Nat.reduceAdd,Nat.reduceLeDiff,resVal,dite_true,dite_false,Int.reduceEq,Int.reduceLT,Int.reduceLE]
  exact h0 rfl _
 ·have hp:0<n:=by omega
  simp only [n55,r55,hc,w1,w0,Int.sub_self,Int.sub_zero,hp,show (0:Nat)<2 ^ 62 by decide,sliceV_nil,sliceV_none,show 0<(n:Int)∧(n:Int)*64≤2 ^ 45∧(n:Int)<2 ^ 62 by omega,SB,Nat.reduceLT,callee,aOp,ne_eq,Nat.reduceEqDiff,aBin,aUn,if_true,if_false,reduceCtorEq,frame0,place,notTuple,Nat.reduceAdd,Nat.reduceLeDiff,resVal,dite_true,dite_false,Int.reduceEq,Int.reduceLT,Int.reduceLE]
  exact h1 hz _
def OwnZ {α:Type} (lim:Nat) (G:Heap) (enc:α→List Value) (e:Nat) (p:Option Addr) (cap:Nat) (l:List α):Prop:=
 Own lim G enc e p cap l∨(l=[]∧cap=loose e∧∃R z,p=some ⟨R,0,none⟩∧hget G R=.cells false z∧lim≤R)
section
variable {α:Type} {lim lim' e bytes cap:Nat} {G:Heap} {enc:α→List Value} {p:Option Addr} {l:List α}
theorem OwnZ.sl (h:OwnZ lim G enc e p cap l) (he:∀x,(enc x).length=e):Sl G enc e p l:=by
 rcases h with h | ⟨rfl,_,R,z,rfl,h,_⟩
 ·exact h.sl he
 ·exact ⟨rfl,fun hh=>absurd rfl hh⟩
theorem OwnZ.app (h:OwnZ lim G enc e p cap l) (X:Heap):OwnZ lim (G++X) enc e p cap l:=by
 rcases h with h | ⟨h1,h2,R,z,h3,h4,h5⟩
 ·exact .inl (h.app X)
 ·exact .inr ⟨h1,h2,R,z,h3,(Ext.refl.app).cells h4,h5⟩
theorem OwnZ.le (h:OwnZ lim G enc e p cap l) (hl:lim'≤lim):OwnZ lim' G enc e p cap l:=by
 rcases h with h | ⟨h1,h2,R,z,h3,h4,h5⟩
 ·exact .inl (h.le hl)
 ·exact .inr ⟨h1,h2,R,z,h3,h4,by omega⟩
theorem OwnZ.block (h:OwnZ lim G enc e p cap l) {a:Addr} (ha:p=some a):lim≤a.block∧a.block<G.length:=by
 rcases h with h | ⟨h1,h2,R,z,h3,h4,h5⟩
 ·exact h.block ha
 ·rw [h3] at ha;cases ha;exact ⟨h5,hget_alive h4⟩
theorem OwnZ.chg {A:List Nat} {H':Heap} (h:OwnZ lim G enc e p cap l) (hc:Chg A G H') (hp:∀a,p=some a→a.block∉A):OwnZ lim H' enc e p cap l:=by
 rcases h with h | ⟨h1,h2,R,z,h3,h4,h5⟩
 ·exact .inl (h.chg hc hp)
 ·exact .inr ⟨h1,h2,R,z,h3,hc.cells h4 (hp _ h3),h5⟩
theorem OwnZ.more (h:OwnZ lim G enc e p cap l) (hll:lim'≤lim) (he:∀x,(enc x).length=e) (he0:e≠0) (m:List α) (hb:(l.length+m.length)*bytes≤maxBytes) (hn:l.length+m.length<2 ^ 61) (hlG:lim≤G.length)
  (X:Heap) {x:Value} {str:Bool} (h1:firstCells (G++X) e str x=some (m.flatMap enc)) (h2:lenOf x=some m.length) :
  ∃G2 p' cap',aAppend lim' none e bytes str (.slice p l.length cap) x (G++X)=some (.slice p' (l.length+m.length) cap',G2++[])∧OwnZ lim (G2++[]) enc e p' cap' (l++m)∧(∀A H0,H0.length≤lim→Chg A H0 G→Chg A H0 (G2++[]))∧
   (∀j,j<G.length→(∀a,p=some a→j≠a.block)→hget (G2++[]) j=hget G j)∧G.length≤G2.length:=by
 rcases h with h | ⟨rfl,rfl,R,z,rfl,h4,h5⟩
 ·obtain ⟨G2,p',cap',k1,k2,k3⟩:=h.more (lim':=lim') (bytes:=bytes) hll he he0 m hb hn hlG X h1 h2
  exact ⟨G2,p',cap',k1,.inl k2,k3⟩
 ·have hRl:=hget_alive h4
  have hR':hget (G++X) R=.cells false z:=by rw [hget_old hRl];exact h4
  by_cases hm:m=[]
  ·subst hm
   refine ⟨G++X,some ⟨R,0,none⟩,loose e, ?_,by rw [List.append_nil];exact .inr ⟨rfl,rfl,R,z,rfl,hR',h5⟩,fun A H0 q1 q2=>by rw [List.append_nil];exact q2.app,fun j hj _=>by rw [List.append_nil,hget_old hj],by simp⟩
   simp only [List.length_nil,Nat.add_zero] at hb hn h2⊢
   simp only [aAppend,h1,h2,Nat.add_zero,if_true,List.append_nil]
   rw [if_neg (by unfold loose;omega)]
  ·have hm0:¬m.length=0:=fun q=>hm (List.length_eq_zero_iff.1 q)
   have hold:AM.loadCells (G++X) ⟨R,0,none⟩ (0*e)=some []:=by
    simp only [loadCells_lit,hR',Nat.zero_mul,Nat.add_zero,Nat.zero_le,if_true,List.take_zero]
   have hmt:Mut G (G.set R .dead) R:=⟨by simp,fun j hj=>hget_set_ne hj⟩
   refine ⟨G.set R .dead++(X++[.cells false (m.flatMap enc)]),some ⟨(G++X).length,0,none⟩,loose e, ?_,.inl ?_,fun A H0 q1 q2=>by rw [List.append_nil];exact (q2.mut hmt (.inr (by omega))).app,fun j hj hp=>by
    rw [List.append_nil,hget_old (by simpa using hj)];exact hget_set_ne (hp _ rfl),by simp⟩
   ·simp only [List.length_nil,Nat.zero_add] at hb hn⊢
    simp only [aAppend,h1,h2,hold,hR',hm0,if_false,if_true,Nat.zero_add]
    rw [if_neg (by unfold loose;omega)]
    simp [show lim'≤R by omega,place,List.set_append_left _ _ hRl,List.append_assoc]
   ·rw [List.append_nil,List.nil_append]
    refine Own.new ?_ (by simp;omega)
    rw [←List.append_assoc,show (G++X).length=(G.set R .dead++X).length by simp];exact hget_new0
end
theorem concat_tail [OB] {lim B c1 c2 cap:Nat} {o:Bool} {q p1 p2:Option Addr} {m1 m2:List Leg} {H G:Heap} {fr:Nat→Value} {K:List AItem} {Z:Value→Heap→Prop} (hB:hget H B=.cells o [.slice p1 m1.length c1,.slice p2 m2.length c2]) (s1:Sl H encL 8 p1 m1) (s2:Sl H encL 8 p2 m2) (hn:m1.length+m2.length<2 ^ 20) (hlim:lim≤H.length)
  (hE:Chg [] H G) (hO:OwnZ H.length G encL 8 q cap []) (f6:fr 6=.slice q 0 cap) (f25:fr 25=.slice (some ⟨B,0,none⟩) 2 2) (f26:fr 26=.int .i64 2) (f27:fr 27=.int .i64 0)
  (hR:∀fr' G' q' cap',Chg [] H G'→OwnZ H.length G' encL 8 q' cap' (m1++m2)→fr' 6=.slice q' (m1.length+m2.length) cap'→Ret E a43 lim K fr' (G'++[]) Z) :
  Ret E a43 lim (.code (.loop l43_1)::.inBlock 2::K) fr G Z:=by
 have i0:∀k (H1:Heap),idxK 1 (.slice (some ⟨B,0,none⟩) 2 2) (.int k 0) H1=some (.pointer (some ⟨B,0,none⟩),H1):=fun k H1=>by simp [idxK,addr_add]
 have i1:∀k (H1:Heap),idxK 1 (.slice (some ⟨B,0,none⟩) 2 2) (.int k 1) H1=some (.pointer (some ⟨B,1,none⟩),H1):=fun k H1=>by simp [idxK,addr_add]
 have w3:IntKind.i64.wrap (0+1)=1:=by decide
 have w4:IntKind.i64.wrap (1+1)=2:=by decide
 have hBX:=fun X=>(Ext.refl.app (X:=X)).cells (hE.cells hB (by simp))
 have hl:=hE.len
 obtain ⟨G2,q2,k2,e2,O2,C2,_,l2⟩:=hO.more (lim':=lim) (bytes:=64) hlim encL_len (by decide) m1 (by unfold maxBytes;simp;omega) (by simp;omega) hl [] (x:=.slice p1 m1.length c1) (str:=false) (first_slice ((hE.ext.sl s1).app _)) rfl
 have E2:=C2 [] H (Nat.le_refl _) hE
 rw [List.append_nil] at E2 O2
 have hBX2:=fun X=>(Ext.refl.app (X:=X)).cells (E2.cells hB (by simp))
 obtain ⟨G3,q3,k3,e3,O3,C3,_,l3⟩:=O2.more (lim':=lim) (bytes:=64) hlim encL_len (by decide) m2 (by unfold maxBytes;simp;omega) (by simp;omega) (by omega) [] (x:=.slice p2 m2.length c2) (str:=false) (first_slice ((E2.ext.sl s2).app _)) rfl
 have E3:=C3 [] H (Nat.le_refl _) E2
 rw [List.append_nil] at E3 O3
 simp only [List.length_nil,Nat.zero_add,List.nil_append] at e2 e3 O3
 refine Ret_pad ?_
 rw [Ret_loop,Ret_code l43_1.eq_1]
 simp only [n43,r43,f6,f25,f26,f27,hBX,i0,w3,e2,SB,Nat.reduceLT,callee,aOp,ne_eq,Nat.reduceEqDiff,aBin,aUn,if_true,if_false,reduceCtorEq,frame0,place,notTuple,Nat.reduceAdd,Nat.reduceLeDiff,resVal,dite_true,dite_false,Int.reduceEq,Int.reduceLT,Int.reduceLE]
 rw [Ret_inLoop,Ret_code l43_1.eq_1]
 simp only [n43,r43,f6,f25,f26,f27,hBX2,i1,w4,e3,SB,Nat.reduceLT,callee,aOp,ne_eq,Nat.reduceEqDiff,aBin,aUn,if_true,if_false,reduceCtorEq,frame0,place,notTuple,Nat.reduceAdd,Nat.reduceLeDiff,resVal,dite_true,dite_false,Int.reduceEq,Int.reduceLT,Int.reduceLE]
 rw [Ret_inLoop,Ret_code l43_1.eq_1]
 simp only [n43,r43,f6,f25,f26,f27,SB,Nat.reduceLT,callee,aOp,ne_eq,Nat.reduceEqDiff,aBin,aUn,if_true,if_false,reduceCtorEq,frame0,place,notTuple,Nat.reduceAdd,Nat.reduceLeDiff,resVal,dite_true,dite_false,Int.reduceEq,Int.reduceLT,Int.reduceLE]
 exact hR _ _ _ _ E3 O3 (by simp only [FB,Nat.reduceEqDiff])
theorem concat_ok [OB] {lim B c1 c2:Nat} {o:Bool} {p1 p2:Option Addr} {m1 m2:List Leg} {H:Heap} {Q:Value→Heap→Prop} (hB:hget H B=.cells o [.slice p1 m1.length c1,.slice p2 m2.length c2]) (s1:Sl H encL 8 p1 m1) (s2:Sl H encL 8 p2 m2) (hn:m1.length+m2.length<2 ^ 20) (hlim:lim≤H.length)
  (hQ:∀H' q cap,Chg [] H H'→OwnZ H.length H' encL 8 q cap (m1++m2)→Q (.slice q (m1.length+m2.length) cap) H') :
  CallR E false lim 43 [.slice (some ⟨B,0,none⟩) 2 2] H Q:=by
 refine runs' (by decide) e43 rfl ?_
 rw [b43,c43]
 have hBX:=fun X=>(Ext.refl.app (X:=X)).cells hB
 have w1:IntKind.i64.wrap (0+(m1.length:Int))=(m1.length:Int):=by rw [Int.zero_add];exact wrap_id (by omega) (by omega)
 have w2:IntKind.i64.wrap ((m1.length:Int)+(m2.length:Int))=((m1.length+m2.length:Nat):Int):=by rw [wrap_id (by omega) (by omega)];omega
 have n1:¬(m1.length:Int)<0:=by omega
 have n2:¬((m1.length+m2.length:Nat):Int)<0:=by omega
 have i0:∀k (H1:Heap),idxK 1 (.slice (some ⟨B,0,none⟩) 2 2) (.int k 0) H1=some (.pointer (some ⟨B,0,none⟩),H1):=fun k H1=>by simp [idxK,addr_add]
 have i1:∀k (H1:Heap),idxK 1 (.slice (some ⟨B,0,none⟩) 2 2) (.int k 1) H1=some (.pointer (some ⟨B,1,none⟩),H1):=fun k H1=>by simp [idxK,addr_add]
 have w3:IntKind.i64.wrap (0+1)=1:=by decide
 have w4:IntKind.i64.wrap (1+1)=2:=by decide
 simp only [n43,r43,SB,Nat.reduceLT,callee,aOp,ne_eq,Nat.reduceEqDiff,aBin,aUn,if_true,if_false,reduceCtorEq,frame0,place,notTuple,Nat.reduceAdd,Nat.reduceLeDiff,resVal,dite_true,dite_false,Int.reduceEq,Int.reduceLT,Int.reduceLE]
 rw [Ret_loop,Ret_code l43_2.eq_1]
 simp only [n43,r43,hBX,i0,w1,w3,n1,SB,Nat.reduceLT,callee,aOp,ne_eq,Nat.reduceEqDiff,aBin,aUn,if_true,if_false,reduceCtorEq,frame0,place,notTuple,Nat.reduceAdd,Nat.reduceLeDiff,resVal,dite_true,dite_false,Int.reduceEq,Int.reduceLT,Int.reduceLE]
 rw [Ret_inLoop,Ret_code l43_2.eq_1]
 simp only [n43,r43,hBX,i1,w2,w4,n2,SB,Nat.reduceLT,callee,aOp,ne_eq,Nat.reduceEqDiff,aBin,aUn,if_true,if_false,reduceCtorEq,frame0,place,notTuple,Nat.reduceAdd,Nat.reduceLeDiff,resVal,dite_true,dite_false,Int.reduceEq,Int.reduceLT,Int.reduceLE]
 rw [Ret_inLoop,Ret_code l43_2.eq_1]
 simp only [n43,r43,SB,Nat.reduceLT,callee,aOp,ne_eq,Nat.reduceEqDiff,aBin,aUn,if_true,if_false,reduceCtorEq,frame0,place,notTuple,Nat.reduceAdd,Nat.reduceLeDiff,resVal,dite_true,dite_false,Int.reduceEq,Int.reduceLT,Int.reduceLE]
 rw [List.append_nil]
 refine grow_ok (by omega) hlim (fun h0 X=>?_) (fun h0 z=>?_)
 ·refine Ret_pad ?_
  simp only [n43,r43,SB,Nat.reduceLT,callee,aOp,ne_eq,Nat.reduceEqDiff,aBin,aUn,if_true,if_false,reduceCtorEq,frame0,place,notTuple,Nat.reduceAdd,Nat.reduceLeDiff,resVal,dite_true,dite_false,Int.reduceEq,Int.reduceLT,Int.reduceLE]
  refine concat_tail (c1:=c1) (c2:=c2) (o:=o) hB s1 s2 hn hlim (Chg.refl.app) (.inl .nil) (by simp only [FB,Nat.reduceEqDiff]) (by simp only [FB,Nat.reduceEqDiff]) (by simp only [FB,Nat.reduceEqDiff]) (by simp only [FB,Nat.reduceEqDiff]) fun fr' G' q' cap' hC hO g6=>?_
  simp only [n43,r43,g6,SB,Nat.reduceLT,callee,aOp,ne_eq,Nat.reduceEqDiff,aBin,aUn,if_true,if_false,reduceCtorEq,frame0,place,notTuple,Nat.reduceAdd,Nat.reduceLeDiff,resVal,dite_true,dite_false,Int.reduceEq,Int.reduceLT,Int.reduceLE]
  exact hQ _ _ _ hC.app (hO.app _)
 ·refine Ret_pad ?_
  simp only [n43,r43,SB,Nat.reduceLT,callee,aOp,ne_eq,Nat.reduceEqDiff,aBin,aUn,if_true,if_false,reduceCtorEq,frame0,place,notTuple,Nat.reduceAdd,Nat.reduceLeDiff,resVal,dite_true,dite_false,Int.reduceEq,Int.reduceLT,Int.reduceLE]
  refine concat_tail (c1:=c1) (c2:=c2) (o:=o) hB s1 s2 hn hlim (Chg.refl.app) (.inr ⟨rfl,rfl,_,z,rfl,hget_new0,Nat.le_refl _⟩) (by simp only [FB,Nat.reduceEqDiff]) (by simp only [FB,Nat.reduceEqDiff]) (by simp only [FB,Nat.reduceEqDiff]) (by simp only [FB,Nat.reduceEqDiff]) fun fr' G' q' cap' hC hO g6=>?_
  simp only [n43,r43,g6,SB,Nat.reduceLT,callee,aOp,ne_eq,Nat.reduceEqDiff,aBin,aUn,if_true,if_false,reduceCtorEq,frame0,place,notTuple,Nat.reduceAdd,Nat.reduceLeDiff,resVal,dite_true,dite_false,Int.reduceEq,Int.reduceLT,Int.reduceLE]
  exact hQ _ _ _ hC.app (hO.app _)
theorem Without_ok [OB] {lim:Nat} {pp pl:Option Addr} {P:List Int} {L:List Leg} {cp cl:Nat} {t:Int} {H:Heap} {Q:Value→Heap→Prop} (hn:NetIn H pp pl P L) (hc:CapOk 8 cl L.length) (hP:P≠[]) (hlim:lim≤H.length) (hv:validN P L=0) (ht:∃l∈L,l.id=t)
  (hok:∀H' qp ql cql,Chg [] H H'→Own H.length H' encI 1 qp (loose 1) P→OwnZ H.length H' encL 8 ql cql (L.take (L.findIdx fun l=>l.id=t)++L.drop (L.findIdx (fun l=>l.id=t)+1))→Q (.tuple #[.agg (netV qp P.length (loose 1) ql (L.length-1) cql).toArray,.int .i64 0]) H') :
  CallR E false lim 17 [.agg (netV pp P.length cp pl L.length cl).toArray,.int .i64 t] H Q:=by
 refine runs' (by decide) e17 rfl ?_
 rw [b17,c17]
 obtain ⟨v1,v2,v3,v4⟩:=validN_0 hv
 have hvd:=fun X (mp:Bool) (lim:Nat) (Q:Value→Heap→Prop)=>valid_ok (mp:=mp) (lim:=lim) (cp:=cp) (cl:=cl) (Q:=Q) (hn.app X)
 rw [hv] at hvd
 have hix:=fun X (mp:Bool) (lim:Nat) (Q:Value→Heap→Prop)=>legindex_ok (mp:=mp) (lim:=lim) (A:=H.length+1) (o:=false) (t:=t) (cap:=cl) (Q:=Q) (H:=H++.cells false (netV pp P.length cp pl L.length cl)::.cells false [.int .i64 t]::X) (by rw [hget_new];rfl) (hn.sl.app _) (by omega)
 have hat:legAt L t=((L.findIdx fun l=>l.id=t:Nat):Int):=if_pos ht
 have hil:L.findIdx (fun l=>l.id=t)<L.length:=by
  rw [List.findIdx_lt_length]
  obtain ⟨l,h1,h2⟩:=ht
  exact ⟨l,h1,by simpa using h2⟩
 rw [hat] at hix
 generalize L.findIdx (fun l=>decide (l.id=t))=i at *
 have hineg:¬(i:Int)<0:=by omega
 have w1:IntKind.i64.wrap ((i:Int)+1)=((i+1:Nat):Int):=wrap_nat (by omega)
 obtain ⟨q1,k1,x1,s1,_,_,_⟩:=slice_cut (vlo:=none) (vhi:=some (.int .i64 (i:Int))) (lo:=0) (hi:=i) hn.sl hc encL_len (fun cap hcap=>by rw [bv_010 (by omega) (by omega),Int.toNat_natCast]) (Nat.zero_le _) (by omega) (by omega)
 obtain ⟨q2,k2,x2,s2,_,_,_⟩:=slice_cut (vlo:=some (.int .i64 ((i+1:Nat):Int))) (vhi:=none) (lo:=i+1) (hi:=L.length) hn.sl hc encL_len (fun cap hcap=>by rw [bv_100 (by omega) (by omega),Int.toNat_natCast]) (by omega) (Nat.le_refl _) (by omega)
 rw [List.drop_zero] at s1
 rw [List.take_length] at s2
 simp only [Nat.sub_zero] at x1
 simp only [n17,r17,hvd,netV_len,netV_0,netV_1,take_all,hix,hineg,w1,x1,x2,SB,Nat.reduceLT,callee,aOp,ne_eq,Nat.reduceEqDiff,aBin,aUn,if_true,if_false,reduceCtorEq,frame0,place,notTuple,Nat.reduceAdd,Nat.reduceLeDiff,resVal,dite_true,dite_false,Int.reduceEq,Int.reduceLT,Int.reduceLE]
 refine clone_ok (hn.sp.app _) hP (by omega) fun H3 q3 hE3 hO3=>?_
 obtain ⟨Y,rfl⟩:=hE3
 refine Ret_pad ?_
 simp only [n17,r17,SB,Nat.reduceLT,callee,aOp,ne_eq,Nat.reduceEqDiff,aBin,aUn,if_true,if_false,reduceCtorEq,frame0,place,notTuple,Nat.reduceAdd,Nat.reduceLeDiff,resVal,dite_true,dite_false,Int.reduceEq,Int.reduceLT,Int.reduceLE]
 have e1:(L.take i).length=i:=by rw [List.length_take];omega
 have e2:(L.drop (i+1)).length=L.length-(i+1):=by rw [List.length_drop]
 generalize hd:(Blk.cells false [.slice q1 i k1,.slice q2 (L.length-(i+1)) k2])=d
 generalize hG:H++.cells false (netV pp P.length cp pl L.length cl)::.cells false [.int .i64 t]::.cells false [.slice none 0 0,.slice none 0 0]::d::(Y++[])=G
 have hEG:Ext H G:=⟨_,hG.symm⟩
 have hGl:H.length+4≤G.length:=by rw [←hG];simp
 have hG3:hget G (H.length+3)=d:=by rw [←hG,hget_new];rfl
 have hG2:hget G (H.length+2)=.cells false [.slice none 0 0,.slice none 0 0]:=by rw [←hG,hget_new];rfl
 have hm:Mut ((H++[Blk.cells false (netV pp P.length cp pl L.length cl),Blk.cells false [.int .i64 t],Blk.cells false [.slice none 0 0,.slice none 0 0],Blk.dead])++Y) G (H.length+3):=by
  have e:G=((H++[Blk.cells false (netV pp P.length cp pl L.length cl),Blk.cells false [.int .i64 t],Blk.cells false [.slice none 0 0,.slice none 0 0],Blk.dead])++Y).set (H.length+3) d:=by
   rw [←hG,List.append_assoc,set_new];simp
  rw [e];exact ⟨by simp,fun j hj=>hget_set_ne hj⟩
 simp only [List.length_append,List.length_cons,List.length_nil] at hO3
 have hO:=hO3.mut hm fun a e=>by have:=(hO3.block e).1;omega
 have hcc:=fun Q=>concat_ok (lim:=lim) (Q:=Q) (B:=H.length+3) (o:=false) (p1:=q1) (c1:=k1) (m1:=L.take i) (p2:=q2) (c2:=k2) (m2:=L.drop (i+1)) (H:=G) (by rw [hG3,←hd,e1,e2]) (hEG.sl s1) (hEG.sl s2) (by omega) (by omega)
 rw [e1,e2] at hcc
 refine hcc _ fun H5 q5 c5 hC5 hO5=>?_
 have hl5:=hC5.len
 obtain ⟨H6,e6,h6,m6⟩:=mut_set (hget_alive (hC5.cells hG2 (by simp))) (.cells false [.slice q3 P.length (loose 1),.slice q5 (i+(L.length-(i+1))) c5])
 have hG2X:=fun X=>(Ext.refl.app (X:=X)).cells (hC5.cells hG2 (by simp))
 have h6X:=fun X=>(Ext.refl.app (X:=X)).cells h6
 have ei:i+(L.length-(i+1))=L.length-1:=by omega
 rw [ei] at e6 h6 h6X
 refine Ret_pad ?_
 simp only [n17,r17,hG2X,e6,h6X,ei,show lim≤H.length+2 by omega,SB,Nat.reduceLT,callee,aOp,ne_eq,Nat.reduceEqDiff,aBin,aUn,if_true,if_false,reduceCtorEq,frame0,place,notTuple,Nat.reduceAdd,Nat.reduceLeDiff,resVal,dite_true,dite_false,Int.reduceEq,Int.reduceLT,Int.reduceLE]
 refine hok _ q3 q5 c5 ((((hEG.chg).trans hC5).mut m6 (.inr (by omega))).app) ?_ ?_
 ·exact (((hO.chg hC5 (by simp)).mut m6 fun a e=>by have:=(hO.block e).1;omega).le (by omega)).app _
 ·have hc6:Chg [H.length+2] H5 H6:=Chg.refl.mut m6 (.inl (by simp))
  exact ((hO5.chg hc6 fun a e=>by have:=(hO5.block e).1;simp only [List.mem_singleton];omega).le (by omega)).app _
theorem stop_eqv {a b:Int×Int×Int}:aEq (.agg [.int .i64,.int .i64,.int .i64]) (.agg (enc3 a).toArray) (.agg (enc3 b).toArray)=some (decide (a=b)):=by
 simp only [aEq,enc3,cellsEq,cellEq,and_self,if_true]
 congr 1
 rw [Bool.eq_iff_iff]
 obtain ⟨a1,a2,a3⟩:=a
 obtain ⟨b1,b2,b3⟩:=b
 simp [and_assoc]
theorem samestops_ok [OB] {mp:Bool} {lim ca cb:Nat} {p q:Option Addr} {a b:List (Int×Int×Int)} {H:Heap} {Q:Value→Heap→Prop} (ha:Sl H enc3 3 p a) (hb:Sl H enc3 3 q b) (hn:a.length<2 ^ 62) :
  CallR E mp lim 18 [.slice p a.length ca,.slice q b.length cb] H Q=Q (.bool (decide (a=b))) H:=by
 refine pc (by decide) e18 rfl rfl ?_
 rw [b18,c18]
 by_cases hl:a.length=b.length
 case neg=>
  have h1:¬(a.length:Int)=(b.length:Int):=by omega
  simp only [n18,r18,eq_false h1,SB,Nat.reduceLT,callee,aOp,ne_eq,Nat.reduceEqDiff,aBin,aUn,if_true,if_false,reduceCtorEq,frame0,place,notTuple,Nat.reduceAdd,Nat.reduceLeDiff,resVal,dite_true,dite_false,Int.reduceEq,Int.reduceLT,Int.reduceLE]
  congr 1
  rw [eq_comm,decide_eq_false_iff_not]
  rintro rfl
  exact hl rfl
 have h1:(a.length:Int)=(b.length:Int):=by omega
 simp only [n18,r18,eq_true h1,SB,Nat.reduceLT,callee,aOp,ne_eq,Nat.reduceEqDiff,aBin,aUn,if_true,if_false,reduceCtorEq,frame0,place,notTuple,Nat.reduceAdd,Nat.reduceLeDiff,resVal,dite_true,dite_false,Int.reduceEq,Int.reduceLT,Int.reduceLE]
 refine Ret_rounds (fun j=>a.length-j) (fun j fr G=>j≤a.length∧fr 0=.slice p a.length ca∧fr 1=.slice q b.length cb∧fr 5=.int .i64 (j:Int)∧Ext H G∧∀i,i<j→gt a i=gt b i) 0 ⟨Nat.zero_le _,(by simp only [FB,Nat.reduceEqDiff]),(by simp only [FB,Nat.reduceEqDiff]),by rfl,Ext.refl.app,fun i hi=>by omega⟩ ?_
 intro j fr G ⟨hj,f0,f1,f5,hE,hall⟩ hN
 rw [Ret_code l18_1.eq_1]
 refine Ret_pad ?_
 by_cases hlt:j<a.length
 case neg=>
  obtain rfl:j=a.length:=by omega
  simp only [n18,r18,f0,f1,f5,hlt,SB,Nat.reduceLT,callee,aOp,ne_eq,Nat.reduceEqDiff,aBin,aUn,if_true,if_false,reduceCtorEq,frame0,place,notTuple,Nat.reduceAdd,Nat.reduceLeDiff,resVal,dite_true,dite_false,Int.reduceEq,Int.reduceLT,Int.reduceLE]
  rw [decide_eq_true (same_all hl hall)]
 have l1:=fun X=>((hE.sl ha).app X).loadCells enc3_len hlt
 have l2:=fun X=>((hE.sl hb).app X).loadCells enc3_len (by omega:j<b.length)
 have x1:=fun c (kk:IntKind) (H1:Heap)=>(hE.sl ha).idx (c:=c) (k:=kk) (H1:=H1) hlt
 have x2:=fun c (kk:IntKind) (H1:Heap)=>(hE.sl hb).idx (c:=c) (k:=kk) (H1:=H1) (by omega:j<b.length)
 have hw1:IntKind.i64.wrap ((j:Int)+1)=((j+1:Nat):Int):=wrap_nat (by omega)
 have hq:=stop_eqv (a:=gt a j) (b:=gt b j)
 by_cases he:gt a j=gt b j
 ·rw [decide_eq_true he] at hq
  simp only [n18,r18,f0,f1,f5,hlt,l1,l2,x1,x2,hw1,hq,SB,Nat.reduceLT,callee,aOp,ne_eq,Nat.reduceEqDiff,aBin,aUn,if_true,if_false,reduceCtorEq,frame0,place,notTuple,Nat.reduceAdd,Nat.reduceLeDiff,resVal,dite_true,dite_false,Int.reduceEq,Int.reduceLT,Int.reduceLE]
  exact hN (j+1) _ _ ⟨by omega,(by simp only [f0,FB,Nat.reduceEqDiff]),(by simp only [f1,FB,Nat.reduceEqDiff]),(by simp only [FB,Nat.reduceEqDiff]),hE.app,same_step hl hlt hall he⟩ (by omega)
 ·rw [decide_eq_false he] at hq
  simp only [n18,r18,f0,f1,f5,hlt,l1,l2,x1,x2,hw1,hq,SB,Nat.reduceLT,callee,aOp,ne_eq,Nat.reduceEqDiff,aBin,aUn,if_true,if_false,reduceCtorEq,frame0,place,notTuple,Nat.reduceAdd,Nat.reduceLeDiff,resVal,dite_true,dite_false,Int.reduceEq,Int.reduceLT,Int.reduceLE]
  rw [decide_eq_false]
  rintro rfl
  exact he rfl
theorem daily_ok [OB] {mp:Bool} {lim:Nat} {a b c d e f:Int} {H:Heap} {Q:Value→Heap→Prop}:CallR E mp lim 4 [.int .i64 a,.int .i64 b,.int .i64 c,.int .i64 d,.int .i64 e,.int .i64 f] H Q=Q (.agg (encL ⟨a,b,c,d,e,f,0,127⟩).toArray) H:=by
 refine pc (by decide) e4 rfl rfl ?_
 rw [b4,c4]
 simp only [n4,r4,encL,SB,Nat.reduceLT,callee,aOp,ne_eq,Nat.reduceEqDiff,aBin,aUn,if_true,if_false,reduceCtorEq,frame0,place,notTuple,Nat.reduceAdd,Nat.reduceLeDiff,resVal,dite_true,dite_false,Int.reduceEq,Int.reduceLT,Int.reduceLE]
theorem three_ok [OB] {lim:Nat} {H:Heap} {Q:Value→Heap→Prop} (hlim:lim≤H.length) (hQ:∀H' a b,Ext H H'→NetIn H' a b P3 L3→Q (.agg (netV a 3 3 b 3 3).toArray) H'):CallR E false lim 16 [] H Q:=by
 refine runs' (by decide) e16 rfl ?_
 rw [b16,c16]
 simp only [n16,r16,daily_ok,encL,setAll_full,hlim,SB,Nat.reduceLT,callee,aOp,ne_eq,Nat.reduceEqDiff,aBin,aUn,if_true,if_false,reduceCtorEq,frame0,place,notTuple,Nat.reduceAdd,Nat.reduceLeDiff,resVal,dite_true,dite_false,Int.reduceEq,Int.reduceLT,Int.reduceLE]
 refine hQ _ (some ⟨H.length+1,0,none⟩) (some ⟨H.length+2,0,none⟩) Ext.refl.app ⟨Sl.row (ro:=false) encI_len (by rw [hget_new];rfl),Sl.row (ro:=false) encL_len (by rw [hget_new];rfl),by decide,by decide, ?_⟩
 intro l hl
 simp only [L3,List.mem_cons,List.not_mem_nil,or_false] at hl
 rcases hl with rfl | rfl | rfl<;>(unfold By;decide)
theorem aw7:IsArr L3 1 0 3 780:=by
 have hk:arrK 3 (posN P3) (0+86400) L3 1 0 2=[0,660,780]:=by rw [arrK,arrK,arrK];exact (congrArg _ s_a).trans s_b
 have h1:=arrK_all (net3 val3) (p:=1) (by decide) (Int.le_refl 0) (by decide:(0:Int)≤0+86400) (k:=2) (by rw [arrK,hk];exact s_c) 3 (by decide)
 rw [hk] at h1
 exact h1
theorem er3 {p q t:Int} (hp:p∈P3) (hq:q∈P3) (h0:0≤t) (h1:t≤maxTime):errA P3 L3 p q t=0:=by
 unfold errA;rw [if_neg (by rw [val3];decide),if_pos ⟨hp,hq,h0,h1⟩]
theorem erM {p q t:Int} (hp:p∈P3) (hq:q∈P3) (h0:0≤t) (h1:t≤maxTime):errA P3 M3 p q t=0:=by
 unfold errA;rw [if_neg (by rw [valM];decide),if_pos ⟨hp,hq,h0,h1⟩]
theorem awake33_go [OB] {mp:Bool} {lim:Nat} {H:Heap} {Q:Value→Heap→Prop} (hoff:OB.on 8=false):CallR E mp lim 8 [] H Q=Q (.bool true) H:=by
 refine CallR_pure (E:=E) (by simp [E,orc,hoff]) (show E.tr 8=some a8 from e8) rfl rfl (Ret_pad ?_)
 rw [b8,c8]
 simp only [n8,r8,SB,Nat.reduceLT,callee,aOp,ne_eq,Nat.reduceEqDiff,aBin,aUn,if_true,if_false,reduceCtorEq,frame0,place,notTuple,Nat.reduceAdd,Nat.reduceLeDiff,resVal,dite_true,dite_false,Int.reduceEq,Int.reduceLT,Int.reduceLE]
 rw [List.append_nil]
 refine three_ok (Nat.le_refl _) fun H0 pa pb hE0 hn0=>?_
 refine Ret_pad ?_
 have hl0:=hE0.len
 simp only [n8,r8,netV_len,netV_0,netV_1,take_all,setAll_full,hl0,SB,Nat.reduceLT,callee,aOp,ne_eq,Nat.reduceEqDiff,aBin,aUn,if_true,if_false,reduceCtorEq,frame0,place,notTuple,Nat.reduceAdd,Nat.reduceLeDiff,resVal,dite_true,dite_false,Int.reduceEq,Int.reduceLT,Int.reduceLE]
 refine Arrive_ok (P:=P3) (L:=L3) (cp:=3) (cl:=3) (hn0.app _) (by simp;omega) (fun _ h=>absurd (er3 (by decide) (by decide) (by decide) (by decide)) h) fun H1 q1 T1 _ hC1 hT1 hO1 hl1=>?_
 have hN1:=hC1.cells (j:=H0.length) hget_new0 (by simp)
 have hN1X:=fun X=>(Ext.refl.app (X:=X)).cells hN1
 have hE1:Ext H0 H1:=hC1.pre.ext
 have hlen1:=hE1.len
 have S1:=hO1.sl encI_len
 obtain rfl:=aw1 hT1
 refine Ret_pad ?_
 simp only [n8,r8,hN1X,netV_len,netV_0,netV_1,take_all,SB,Nat.reduceLT,callee,aOp,ne_eq,Nat.reduceEqDiff,aBin,aUn,if_true,if_false,reduceCtorEq,frame0,place,notTuple,Nat.reduceAdd,Nat.reduceLeDiff,resVal,dite_true,dite_false,Int.reduceEq,Int.reduceLT,Int.reduceLE]
 rw [List.append_nil]
 refine Way_ok (P:=P3) (L:=L3) (cp:=3) (cl:=3) (hn0.ext hE1) (by omega) (fun _ h=>absurd (er3 (by decide) (by decide) (by decide) (by decide)) h) (fun _ _ h=>by have:=h.uniq aw7;omega) fun H2 v w p2 c2 _ hC2 hv0 hv hw _ hO2=>?_
 obtain ⟨rfl,rfl⟩:=aw6 hv hw
 have hN2:=hC2.cells hN1 (by simp)
 have hN2X:=fun X=>(Ext.refl.app (X:=X)).cells hN2
 have hE2:Ext H0 H2:=hE1.trans hC2.ext
 have hlen2:=hC2.len
 have S2:=hO2.sl enc3_len
 replace S1:=hC2.ext.sl S1
 refine Ret_pad ?_
 simp only [n8,r8,hN2X,netV_len,netV_0,netV_1,take_all,SB,Nat.reduceLT,callee,aOp,ne_eq,Nat.reduceEqDiff,aBin,aUn,if_true,if_false,reduceCtorEq,frame0,place,notTuple,Nat.reduceAdd,Nat.reduceLeDiff,resVal,dite_true,dite_false,Int.reduceEq,Int.reduceLT,Int.reduceLE]
 rw [List.append_nil]
 refine Arrive_ok (P:=P3) (L:=L3) (cp:=3) (cl:=3) (hn0.ext hE2) (by omega) (fun _ h=>absurd (er3 (by decide) (by decide) (by decide) (by decide)) h) fun H3 q3 T3 _ hC3 hT3 hO3 hl3=>?_
 have hN3:=hC3.cells hN2 (by simp)
 have hN3X:=fun X=>(Ext.refl.app (X:=X)).cells hN3
 have hE3:Ext H0 H3:=hE2.trans hC3.ext
 have hlen3:=hC3.len
 have S3:=hO3.sl encI_len
 replace S1:=hC3.ext.sl S1
 replace S2:=hC3.ext.sl S2
 obtain rfl:=aw2 hT3
 refine Ret_pad ?_
 simp only [n8,r8,hN3X,netV_len,netV_0,netV_1,take_all,SB,Nat.reduceLT,callee,aOp,ne_eq,Nat.reduceEqDiff,aBin,aUn,if_true,if_false,reduceCtorEq,frame0,place,notTuple,Nat.reduceAdd,Nat.reduceLeDiff,resVal,dite_true,dite_false,Int.reduceEq,Int.reduceLT,Int.reduceLE]
 rw [List.append_nil]
 refine Leave_ok (P:=P3) (L:=L3) (cp:=3) (cl:=3) (hn0.ext hE3) (by omega) (fun _ h=>absurd (er3 (by decide) (by decide) (by decide) (by decide)) h) fun H4 q4 T4 _ hC4 hT4 hO4 hl4=>?_
 have hN4:=hC4.cells hN3 (by simp)
 have hN4X:=fun X=>(Ext.refl.app (X:=X)).cells hN4
 have hE4:Ext H0 H4:=hE3.trans hC4.ext
 have hlen4:=hC4.len
 have S4:=hO4.sl encI_len
 replace S1:=hC4.ext.sl S1
 replace S2:=hC4.ext.sl S2
 replace S3:=hC4.ext.sl S3
 obtain rfl:=aw5 hT4
 refine Ret_pad ?_
 simp only [n8,r8,hN4X,netV_len,netV_0,netV_1,take_all,SB,Nat.reduceLT,callee,aOp,ne_eq,Nat.reduceEqDiff,aBin,aUn,if_true,if_false,reduceCtorEq,frame0,place,notTuple,Nat.reduceAdd,Nat.reduceLeDiff,resVal,dite_true,dite_false,Int.reduceEq,Int.reduceLT,Int.reduceLE]
 rw [List.append_nil]
 refine Without_ok (P:=P3) (L:=L3) (cp:=3) (cl:=3) (hn0.ext hE4) (.inr ⟨by decide,by decide⟩) (by decide) (by omega) val3 ⟨g2,by simp [L3],rfl⟩ fun H5 qp ql cql hC5 hOp hOl=>?_
 have hid:(L3.findIdx fun l=>l.id=2)=1:=rfl
 rw [hid] at hOl
 replace hOl:OwnZ H4.length H5 encL 8 ql cql M3:=hOl
 have hN5:=hC5.cells hN4 (by simp)
 have hN5X:=fun X=>(Ext.refl.app (X:=X)).cells hN5
 have hE5:Ext H0 H5:=hE4.trans hC5.ext
 have hlen5:=hC5.len
 replace S1:=hC5.ext.sl S1
 replace S2:=hC5.ext.sl S2
 replace S3:=hC5.ext.sl S3
 replace S4:=hC5.ext.sl S4
 have hnM:NetIn H5 qp ql P3 M3:=⟨hOp.sl encI_len,hOl.sl encL_len,by decide,by decide,fun l hl=>hn0.bys l (by
  simp only [M3,List.mem_cons,List.not_mem_nil,or_false] at hl
  rcases hl with rfl | rfl<;>simp [L3])⟩
 refine Ret_pad ?_
 simp only [n8,r8,netV_len,netV_0,netV_1,take_all,setAll_full,show H.length≤H5.length by omega,SB,Nat.reduceLT,callee,aOp,ne_eq,Nat.reduceEqDiff,aBin,aUn,if_true,if_false,reduceCtorEq,frame0,place,notTuple,Nat.reduceAdd,Nat.reduceLeDiff,resVal,dite_true,dite_false,Int.reduceEq,Int.reduceLT,Int.reduceLE]
 refine Arrive_ok (P:=P3) (L:=M3) (cp:=loose 1) (cl:=cql) (hnM.app _) (by simp;omega) (fun _ h=>absurd (erM (by decide) (by decide) (by decide) (by decide)) h) fun H6 q6 T6 _ hC6 hT6 hO6 hl6=>?_
 have hC6':=hC6.pre
 have hN6:=hC6'.cells hN5 (by simp)
 have hN6X:=fun X=>(Ext.refl.app (X:=X)).cells hN6
 have hE6:Ext H0 H6:=hE5.trans hC6'.ext
 have hlen6:=hC6'.len
 have S6:=hO6.sl encI_len
 replace S1:=hC6'.ext.sl S1
 replace S2:=hC6'.ext.sl S2
 replace S3:=hC6'.ext.sl S3
 replace S4:=hC6'.ext.sl S4
 obtain rfl:=aw3 hT6
 refine Ret_pad ?_
 simp only [n8,r8,hN6X,netV_len,netV_0,netV_1,take_all,SB,Nat.reduceLT,callee,aOp,ne_eq,Nat.reduceEqDiff,aBin,aUn,if_true,if_false,reduceCtorEq,frame0,place,notTuple,Nat.reduceAdd,Nat.reduceLeDiff,resVal,dite_true,dite_false,Int.reduceEq,Int.reduceLT,Int.reduceLE]
 rw [List.append_nil]
 refine Way_ok (P:=P3) (L:=L3) (cp:=3) (cl:=3) (hn0.ext hE6) (by omega) (fun _ h=>absurd (er3 (by decide) (by decide) (by decide) (by decide)) h) (fun H7 _ _ hC7=>?_) fun H7 v w p7 c7 _ hC7 hv0 hv hw _ hO7=>?_
 ·replace S1:=hC7.ext.sl S1
  replace S2:=hC7.ext.sl S2
  replace S3:=hC7.ext.sl S3
  replace S4:=hC7.ext.sl S4
  replace S6:=hC7.ext.sl S6
  have f1:∀(X:Heap) (mp:Bool) (lim:Nat) (Q:Value→Heap→Prop),CallR E mp lim 11 [.slice q1 P3.length (loose 1),.slice (some ⟨H7.length,0,none⟩) 3 3] (H7++.cells false [.int .i64 0,.int .i64 660,.int .i64 780]::X) Q=Q (.bool true) (H7++.cells false [.int .i64 0,.int .i64 660,.int .i64 780]::X):=fun X mp lim Q=>
   sameints_ok (a:=[0,660,780]) (b:=[0,660,780]) (S1.app _) (Sl.row (ro:=false) encI_len (by rw [hget_new0];rfl)) (by decide)
  have f2:∀(a:Blk) (X:Heap) (mp:Bool) (lim:Nat) (Q:Value→Heap→Prop),CallR E mp lim 18 [.slice p2 2 c2,.slice (some ⟨H7.length+1,0,none⟩) 2 2] (H7++a::.cells false [.int .i64 1,.int .i64 600,.int .i64 660,.int .i64 2,.int .i64 720,.int .i64 780]::X) Q=Q (.bool true) (H7++a::.cells false [.int .i64 1,.int .i64 600,.int .i64 660,.int .i64 2,.int .i64 720,.int .i64 780]::X):=fun a X mp lim Q=>
   samestops_ok (a:=[(g1,(600:Int)),(g2,720)].map stopOf) (b:=[(1,600,660),(2,720,780)]) (S2.app _) (Sl.row (ro:=false) enc3_len (by rw [hget_new];rfl)) (by decide)
  have f3:∀(a b:Blk) (X:Heap) (mp:Bool) (lim:Nat) (Q:Value→Heap→Prop),CallR E mp lim 11 [.slice q3 P3.length (loose 1),.slice (some ⟨H7.length+2,0,none⟩) 3 3] (H7++a::b::.cells false [.int .i64 601,.int .i64 2100,.int .i64 2220]::X) Q=Q (.bool true) (H7++a::b::.cells false [.int .i64 601,.int .i64 2100,.int .i64 2220]::X):=fun a b X mp lim Q=>
   sameints_ok (a:=[601,2100,2220]) (b:=[601,2100,2220]) (S3.app _) (Sl.row (ro:=false) encI_len (by rw [hget_new];rfl)) (by decide)
  have f4:∀(a b c:Blk) (X:Heap) (mp:Bool) (lim:Nat) (Q:Value→Heap→Prop),CallR E mp lim 11 [.slice q4 P3.length (loose 1),.slice (some ⟨H7.length+3,0,none⟩) 3 3] (H7++a::b::c::.cells false [.int .i64 600,.int .i64 660,.int .i64 780]::X) Q=Q (.bool true) (H7++a::b::c::.cells false [.int .i64 600,.int .i64 660,.int .i64 780]::X):=fun a b c X mp lim Q=>
   sameints_ok (a:=[600,660,780]) (b:=[600,660,780]) (S4.app _) (Sl.row (ro:=false) encI_len (by rw [hget_new];rfl)) (by decide)
  have f5:∀(a b c d:Blk) (X:Heap) (mp:Bool) (lim:Nat) (Q:Value→Heap→Prop),CallR E mp lim 11 [.slice q6 P3.length (loose 1),.slice (some ⟨H7.length+4,0,none⟩) 3 3] (H7++a::b::c::d::.cells false [.int .i64 0,.int .i64 660,.int .i64 840]::X) Q=Q (.bool true) (H7++a::b::c::d::.cells false [.int .i64 0,.int .i64 660,.int .i64 840]::X):=fun a b c d X mp lim Q=>
   sameints_ok (a:=[0,660,840]) (b:=[0,660,840]) (S6.app _) (Sl.row (ro:=false) encI_len (by rw [hget_new];rfl)) (by decide)
  refine Ret_pad ?_
  simp only [n8,r8,f1,f2,f3,f4,f5,SB,Nat.reduceLT,callee,aOp,ne_eq,Nat.reduceEqDiff,aBin,aUn,if_true,if_false,reduceCtorEq,frame0,place,notTuple,Nat.reduceAdd,Nat.reduceLeDiff,resVal,dite_true,dite_false,Int.reduceEq,Int.reduceLT,Int.reduceLE]
 ·have:=aw4 hv;omega
theorem three_run [OB] {lim:Nat} {H:Heap} {Q:Value→Heap→Prop} (hlim:lim≤H.length) (hQ:∀b,Q (.agg (netV (some ⟨H.length+1,0,none⟩) 3 3 (some ⟨H.length+2,0,none⟩) 3 3).toArray) (H++[b,.cells false (P3.flatMap encI),.cells false (L3.flatMap encL)])):CallR E false lim 16 [] H Q:=by
 refine runs' (by decide) e16 rfl ?_
 rw [b16,c16]
 simp only [n16,r16,daily_ok,encL,setAll_full,hlim,SB,Nat.reduceLT,callee,aOp,ne_eq,Nat.reduceEqDiff,aBin,aUn,if_true,if_false,reduceCtorEq,frame0,place,notTuple,Nat.reduceAdd,Nat.reduceLeDiff,resVal,dite_true,dite_false,Int.reduceEq,Int.reduceLT,Int.reduceLE]
 exact hQ _
section
variable {lim cp cl:Nat} {a b:Option Addr} {P:List Int} {L:List Leg} {G:Heap} {fr:Nat→Value} {K:List AItem} {Z:Value→Heap→Prop}
def atEnds:List Int:=[-1,0,1,1051896959,1051898299,1051898398,1051898399,1051898400]
theorem far_1 [OB] {A R:Nat} (hn:NetIn G a b P3 L3) (hb:hget G A=.cells false (netV a 3 3 b 3 3)) (hs:hget G R=.cells false (atEnds.flatMap encI)) (f1:fr 1=.pointer (some ⟨A,0,none⟩)) (f10:fr 10=.slice (some ⟨R,0,none⟩) 8 8) (f11:fr 11=.int .i64 8) (f12:fr 12=.int .i64 0)
  (hK:∀fr' G',Ext G G'→Ret E a6 lim K fr' G' Z):Ret E a6 lim (.code (.loop l6_4)::.inBlock 0::K) fr G Z:=by
 refine Ret_rounds (fun i=>8-i) (fun i fr' G'=>i≤8∧fr' 1=.pointer (some ⟨A,0,none⟩)∧fr' 10=.slice (some ⟨R,0,none⟩) 8 8∧fr' 11=.int .i64 8∧fr' 12=.int .i64 (i:Int)∧Ext G G') 0 ⟨by decide,f1,f10,f11,f12,Ext.refl⟩ ?_
 intro i fr' G' ⟨hi,g1,g10,g11,g12,hE⟩ hN
 rw [Ret_code l6_4.eq_1]
 have bX:=fun X=>(Ext.refl.app (X:=X)).cells (hE.cells hb)
 have sS:Sl G' encI 1 (some ⟨R,0,none⟩) atEnds:=Sl.row encI_len (hE.cells hs)
 refine Ret_pad ?_
 by_cases hlt:i<8
 case neg=>
  obtain rfl:i=8:=by omega
  simp only [n6,r6,g1,g10,g11,g12,SB,Nat.reduceLT,callee,aOp,ne_eq,Nat.reduceEqDiff,aBin,aUn,if_true,if_false,reduceCtorEq,frame0,place,notTuple,Nat.reduceAdd,Nat.reduceLeDiff,resVal,dite_true,dite_false,Int.reduceEq,Int.reduceLT,Int.reduceLE]
  exact hK _ _ hE.app
 have h8:(i:Int)<8:=by omega
 have l1:=ld_ints (i:=i) sS hlt
 have x1:=ix_ints (i:=i) (n:=8) sS hlt rfl
 have w1:IntKind.i64.wrap ((i:Int)+1)=((i+1:Nat):Int):=wrap_nat (by omega)
 simp only [n6,r6,g1,g10,g11,g12,eq_true h8,l1,x1,SB,Nat.reduceLT,callee,aOp,ne_eq,Nat.reduceEqDiff,aBin,aUn,if_true,if_false,reduceCtorEq,frame0,place,notTuple,Nat.reduceAdd,Nat.reduceLeDiff,resVal,dite_true,dite_false,Int.reduceEq,Int.reduceLT,Int.reduceLE]
 generalize gt atEnds i=t
 refine Ret_rounds (fun j=>5-j) (fun j fr2 G2=>j≤5∧fr2 1=.pointer (some ⟨A,0,none⟩)∧fr2 10=.slice (some ⟨R,0,none⟩) 8 8∧fr2 11=.int .i64 8∧fr2 12=.int .i64 (i:Int)∧fr2 3=.int .i64 t∧fr2 4=.int .i64 (j:Int)∧Ext G G2) 0 ⟨by decide,(by simp only [g1,FB,Nat.reduceEqDiff]),(by simp only [g10,FB,Nat.reduceEqDiff]),(by simp only [g11,FB,Nat.reduceEqDiff]),(by simp only [g12,FB,Nat.reduceEqDiff]),(by simp only [FB,Nat.reduceEqDiff]),by rfl,hE.app⟩ ?_
 intro j fr2 G2 ⟨hj,k1,k10,k11,k12,k3,k4,hE2⟩ hN2
 rw [Ret_code l6_3.eq_1]
 have b2X:=fun X=>(Ext.refl.app (X:=X)).cells (hE2.cells hb)
 have ht:∀X (mp:Bool) (lim:Nat) (Q:Value→Heap→Prop) (p q t:Int),CallR E mp lim 5 [.agg (netV a 3 3 b 3 3).toArray,.int .i64 p,.int .i64 q,.int .i64 t] (G2++X) Q=Q (.bool true) (G2++X):=fun X mp lim Q p q t=>tells_ok ((hn.ext hE2).app X)
 refine Ret_pad ?_
 by_cases hj5:j<5
 case neg=>
  have h5:¬(j:Int)<5:=by omega
  simp only [n6,r6,k1,k10,k11,k12,k3,k4,eq_false h5,w1,SB,Nat.reduceLT,callee,aOp,ne_eq,Nat.reduceEqDiff,aBin,aUn,if_true,if_false,reduceCtorEq,frame0,place,notTuple,Nat.reduceAdd,Nat.reduceLeDiff,resVal,dite_true,dite_false,Int.reduceEq,Int.reduceLT,Int.reduceLE]
  exact hN (i+1) _ _ ⟨by omega,(by simp only [k1,FB,Nat.reduceEqDiff]),(by simp only [k10,FB,Nat.reduceEqDiff]),(by simp only [k11,FB,Nat.reduceEqDiff]),(by simp only [FB,Nat.reduceEqDiff]),hE2.app⟩ (by omega)
 have h5:(j:Int)<5:=by omega
 have w2:IntKind.i64.wrap ((j:Int)+1)=((j+1:Nat):Int):=wrap_nat (by omega)
 simp only [n6,r6,k1,k10,k11,k12,k3,k4,eq_true h5,w2,b2X,netV_len,netV_0,netV_1,take_all,ht,SB,Nat.reduceLT,callee,aOp,ne_eq,Nat.reduceEqDiff,aBin,aUn,if_true,if_false,reduceCtorEq,frame0,place,notTuple,Nat.reduceAdd,Nat.reduceLeDiff,resVal,dite_true,dite_false,Int.reduceEq,Int.reduceLT,Int.reduceLE]
 exact hN2 (j+1) _ _ ⟨by omega,(by simp only [k1,FB,Nat.reduceEqDiff]),(by simp only [k10,FB,Nat.reduceEqDiff]),(by simp only [k11,FB,Nat.reduceEqDiff]),(by simp only [k12,FB,Nat.reduceEqDiff]),(by simp only [k3,FB,Nat.reduceEqDiff]),(by simp only [FB,Nat.reduceEqDiff]),hE2.app⟩ (by omega)
def legs5 (x y:Int):List Leg:=[⟨1,1,2,0,20160,x,0,127⟩,⟨2,2,3,0,20160,0,0,127⟩,⟨3,3,4,0,20160,0,0,127⟩,⟨4,4,5,0,20160,0,0,127⟩,⟨5,5,6,0,y,0,0,127⟩]
theorem far_2 [OB] (hlim:lim≤G.length) (f5:fr 5=.int .i64 0) (hK:∀fr' G',Ext G G'→Ret E a6 lim K fr' G' Z):Ret E a6 lim (.code (.loop l6_2)::.inBlock 4::K) fr G Z:=by
 refine Ret_rounds (fun i=>24-i) (fun i fr' G'=>i≤24∧fr' 5=.int .i64 (i:Int)∧Ext G G') 0 ⟨by decide,f5,Ext.refl⟩ ?_
 intro i fr' G' ⟨hi,g5,hE⟩ hN
 rw [Ret_code l6_2.eq_1]
 have hlG:=hE.len
 have hlL:lim≤G'.length:=by omega
 refine Ret_pad ?_
 by_cases hlt:i<24
 case neg=>
  obtain rfl:i=24:=by omega
  simp only [n6,r6,g5,SB,Nat.reduceLT,callee,aOp,ne_eq,Nat.reduceEqDiff,aBin,aUn,if_true,if_false,reduceCtorEq,frame0,place,notTuple,Nat.reduceAdd,Nat.reduceLeDiff,resVal,dite_true,dite_false,Int.reduceEq,Int.reduceLT,Int.reduceLE]
  exact hK _ _ hE.app
 have h8:(i:Int)<24:=by omega
 have w1:IntKind.i64.wrap ((i:Int)+1)=((i+1:Nat):Int):=wrap_nat (by omega)
 simp only [n6,r6,g5,eq_true h8,daily_ok,encL,setAll_full,hlL,SB,Nat.reduceLT,callee,aOp,ne_eq,Nat.reduceEqDiff,aBin,aUn,if_true,if_false,reduceCtorEq,frame0,place,notTuple,Nat.reduceAdd,Nat.reduceLeDiff,resVal,dite_true,dite_false,Int.reduceEq,Int.reduceLT,Int.reduceLE]
 generalize IntKind.i64.wrap (IntKind.i64.wrap (Int.tdiv (i:Int) 12)*Int.tmod (i:Int) 4)=x
 generalize IntKind.i64.wrap (5755+Int.tmod (i:Int) 12)=y
 generalize hG3:G'++_=G3
 have hE3:Ext G G3:=by rw [←hG3];exact hE.app
 have hb:hget G3 (G'.length+2)=.cells false (netV (some ⟨G'.length,0,none⟩) 6 6 (some ⟨G'.length+1,0,none⟩) 5 5):=by rw [←hG3,hget_new];rfl
 have hnet:NetIn G3 (some ⟨G'.length,0,none⟩) (some ⟨G'.length+1,0,none⟩) [1,2,3,4,5,6] (legs5 x y):=by
  rw [←hG3]
  refine ⟨Sl.row (ro:=false) encI_len (by rw [hget_new0];rfl),Sl.row (ro:=false) encL_len (by rw [hget_new];rfl),by decide,(show 5<2 ^ 63 by decide),fun l hl=>?_⟩
  simp only [legs5,List.mem_cons,List.not_mem_nil,or_false] at hl
  rcases hl with rfl | rfl | rfl | rfl | rfl<;>(unfold By;exact ⟨(by decide:(0:Int)≤127),(by decide:(127:Int)≤255)⟩)
 clear hG3
 refine Ret_rounds (fun j=>4-j) (fun j fr2 G2=>j≤4∧fr2 5=.int .i64 (i:Int)∧fr2 6=.pointer (some ⟨G'.length+2,0,none⟩)∧fr2 7=.int .i64 (j:Int)∧Ext G3 G2) 0 ⟨by decide,(by simp only [g5,FB,Nat.reduceEqDiff]),(by simp only [FB,Nat.reduceEqDiff]),by rfl,Ext.refl⟩ ?_
 intro j fr2 G2 ⟨hj,k5,k6,k7,hE2⟩ hN2
 rw [Ret_code l6_1.eq_1]
 have b2X:=fun X=>(Ext.refl.app (X:=X)).cells (hE2.cells hb)
 have ht:∀X (mp:Bool) (lim:Nat) (Q:Value→Heap→Prop) (p q t:Int),CallR E mp lim 5 [.agg (netV (some ⟨G'.length,0,none⟩) 6 6 (some ⟨G'.length+1,0,none⟩) 5 5).toArray,.int .i64 p,.int .i64 q,.int .i64 t] (G2++X) Q=Q (.bool true) (G2++X):=fun X mp lim Q p q t=>tells_ok ((hnet.ext hE2).app X)
 refine Ret_pad ?_
 by_cases hj5:j<4
 case neg=>
  have h5:¬(j:Int)<4:=by omega
  simp only [n6,r6,k5,k6,k7,eq_false h5,w1,SB,Nat.reduceLT,callee,aOp,ne_eq,Nat.reduceEqDiff,aBin,aUn,if_true,if_false,reduceCtorEq,frame0,place,notTuple,Nat.reduceAdd,Nat.reduceLeDiff,resVal,dite_true,dite_false,Int.reduceEq,Int.reduceLT,Int.reduceLE]
  exact hN (i+1) _ _ ⟨by omega,(by simp only [FB,Nat.reduceEqDiff]),(hE3.trans hE2).app⟩ (by omega)
 have h5:(j:Int)<4:=by omega
 have w2:IntKind.i64.wrap ((j:Int)+1)=((j+1:Nat):Int):=wrap_nat (by omega)
 simp only [n6,r6,k5,k6,k7,eq_true h5,w2,b2X,netV_len,netV_0,netV_1,take_all,ht,SB,Nat.reduceLT,callee,aOp,ne_eq,Nat.reduceEqDiff,aBin,aUn,if_true,if_false,reduceCtorEq,frame0,place,notTuple,Nat.reduceAdd,Nat.reduceLeDiff,resVal,dite_true,dite_false,Int.reduceEq,Int.reduceLT,Int.reduceLE]
 exact hN2 (j+1) _ _ ⟨by omega,(by simp only [k5,FB,Nat.reduceEqDiff]),(by simp only [k6,FB,Nat.reduceEqDiff]),(by simp only [FB,Nat.reduceEqDiff]),hE2.app⟩ (by omega)
end
theorem far_ok [OB] {mp:Bool} {lim:Nat} {H:Heap} {Q:Value→Heap→Prop}:CallR E mp lim 6 [] H Q=Q (.bool true) H:=by
 refine pc (by decide) e6 rfl rfl ?_
 rw [b6,c6]
 simp only [n6,r6,SB,Nat.reduceLT,callee,aOp,ne_eq,Nat.reduceEqDiff,aBin,aUn,if_true,if_false,reduceCtorEq,frame0,place,notTuple,Nat.reduceAdd,Nat.reduceLeDiff,resVal,dite_true,dite_false,Int.reduceEq,Int.reduceLT,Int.reduceLE]
 rw [List.append_nil]
 refine three_ok (Nat.le_refl _) fun G1 a1 b1 hE1 hn1=>?_
 have hl1:=hE1.len
 refine Ret_pad ?_
 simp only [n6,r6,setAll_full,netV_len,netV_0,netV_1,hl1,SB,Nat.reduceLT,callee,aOp,ne_eq,Nat.reduceEqDiff,aBin,aUn,if_true,if_false,reduceCtorEq,frame0,place,notTuple,Nat.reduceAdd,Nat.reduceLeDiff,resVal,dite_true,dite_false,Int.reduceEq,Int.reduceLT,Int.reduceLE]
 refine far_1 (A:=G1.length) (R:=G1.length+1) (a:=a1) (b:=b1) (hn1.app _) hget_new0 (by rw [hget_new];rfl) (by simp only [FB,Nat.reduceEqDiff]) (by simp only [FB,Nat.reduceEqDiff]) (by simp only [FB,Nat.reduceEqDiff]) (by rfl) fun fr2 G2 hE2=>?_
 have hl2:=hE2.len
 simp only [List.length_append,List.length_cons,List.length_nil] at hl2
 refine Ret_pad ?_
 simp only [n6,r6,SB,Nat.reduceLT,callee,aOp,ne_eq,Nat.reduceEqDiff,aBin,aUn,if_true,if_false,reduceCtorEq,frame0,place,notTuple,Nat.reduceAdd,Nat.reduceLeDiff,resVal,dite_true,dite_false,Int.reduceEq,Int.reduceLT,Int.reduceLE]
 refine far_2 (by simp;omega) (by rfl) fun fr3 G3 hE3=>?_
 have hl3:=hE3.len
 simp only [List.length_append,List.length_cons,List.length_nil] at hl3
 have hlH:H.length≤G3.length:=by omega
 refine Ret_pad ?_
 simp only [n6,r6,SB,Nat.reduceLT,callee,aOp,ne_eq,Nat.reduceEqDiff,aBin,aUn,if_true,if_false,reduceCtorEq,frame0,place,notTuple,Nat.reduceAdd,Nat.reduceLeDiff,resVal,dite_true,dite_false,Int.reduceEq,Int.reduceLT,Int.reduceLE]
 refine three_run (by simp;omega) fun b=>?_
 refine Ret_pad ?_
 have q3:H.length≤G3.length+3:=by omega
 have q2:H.length≤G3.length+2:=by omega
 have hix:∀H1:Heap,idxK 8 (.slice (some ⟨G3.length+2,0,none⟩) 3 3) (.int .i64 1) H1=some (.pointer (some ⟨G3.length+2,8,none⟩),H1):=fun H1=>idxK_nat (n:=1) (by decide)
 simp only [n6,r6,setAll_full,netV_len,netV_0,netV_1,take_all,q3,q2,hix,L3,g1,g2,g3,encL,List.flatMap_cons,List.flatMap_nil,List.append_nil,List.cons_append,List.nil_append,SB,Nat.reduceLT,callee,aOp,ne_eq,Nat.reduceEqDiff,aBin,aUn,if_true,if_false,reduceCtorEq,frame0,place,notTuple,Nat.reduceAdd,Nat.reduceLeDiff,resVal,dite_true,dite_false,Int.reduceEq,Int.reduceLT,Int.reduceLE]
 generalize hG4:G3++_=G4
 have hnet:NetIn G4 (some ⟨G3.length+1,0,none⟩) (some ⟨G3.length+2,0,none⟩) P3 [⟨1,1,2,600,60,0,0,127⟩,⟨1,2,3,720,60,60,0,127⟩,⟨3,1,3,540,300,0,0,127⟩]:=by
  rw [←hG4]
  refine ⟨Sl.row (ro:=false) encI_len (by rw [hget_new];rfl),Sl.row (ro:=false) encL_len (by rw [hget_new];rfl),by decide,by decide,fun l hl=>?_⟩
  simp only [List.mem_cons,List.not_mem_nil,or_false] at hl
  rcases hl with rfl | rfl | rfl<;>(unfold By;decide)
 have hlG4:H.length≤G4.length:=by rw [←hG4,List.length_append];omega
 clear hG4
 have t1:∀(mp:Bool) (lim:Nat) (Q:Value→Heap→Prop) (p q t:Int),CallR E mp lim 5 [.agg (netV (some ⟨G3.length+1,0,none⟩) 3 3 (some ⟨G3.length+2,0,none⟩) 3 3).toArray,.int .i64 p,.int .i64 q,.int .i64 t] G4 Q=Q (.bool true) G4:=fun mp lim Q p q t=>tells_ok hnet
 have t2:∀(G:Heap) (mp:Bool) (lim:Nat) (Q:Value→Heap→Prop) (p q t:Int),CallR E mp lim 5 [.agg #[.slice none 0 0,.slice none 0 0],.int .i64 p,.int .i64 q,.int .i64 t] G Q=Q (.bool true) G:=fun G mp lim Q p q t=>
  tells_ok (P:=[]) (L:=[]) (pp:=none) (pl:=none) (cp:=0) (cl:=0) ⟨rfl,rfl,by decide,by decide,fun l hl=>by cases hl⟩
 have t3:∀(X:Heap) (mp:Bool) (lim:Nat) (Q:Value→Heap→Prop) (p q t:Int),CallR E mp lim 5 [.agg #[.slice (some ⟨G4.length,0,none⟩) 1 1,.slice none 0 0],.int .i64 p,.int .i64 q,.int .i64 t] (G4++Blk.cells false [.int .i64 5]::X) Q=Q (.bool true) (G4++Blk.cells false [.int .i64 5]::X):=fun X mp lim Q p q t=>
  tells_ok (P:=[5]) (L:=[]) (pp:=some ⟨G4.length,0,none⟩) (pl:=none) (cp:=1) (cl:=0) ⟨Sl.row (ro:=false) encI_len (by rw [hget_new0];rfl),rfl,by decide,by decide,fun l hl=>by cases hl⟩
 rw [t1]
 refine Ret_pad ?_
 simp only [n6,r6,t2,t3,SB,Nat.reduceLT,callee,aOp,ne_eq,Nat.reduceEqDiff,aBin,aUn,if_true,if_false,reduceCtorEq,frame0,place,notTuple,Nat.reduceAdd,Nat.reduceLeDiff,resVal,dite_true,dite_false,Int.reduceEq,Int.reduceLT,Int.reduceLE]
section
variable {lim:Nat} {G:Heap} {fr:Nat→Value} {K:List AItem} {Z:Value→Heap→Prop}
theorem wide_plants [OB] {A:Nat} {m:Int} (hlim:lim≤A) (hm:m≤60) (hA:hget G A=.cells false [.slice none 0 0,.slice none 0 0]) (f2:fr 2=.int .i64 m) (f3:fr 3=.pointer (some ⟨A,0,none⟩)) (f4:fr 4=.int .i64 1)
  (hK:∀fr' G' p c P,Chg [A] G G'→hget G' A=.cells false [.slice p (List.length P) c,.slice none 0 0]→Own G.length G' encI 1 p c P→P.length≤60→(∀j,j≤3∨15≤j∧j≤17→fr' j=fr j)→Ret E a7 lim K fr' G' Z) :
  Ret E a7 lim (.code (.loop l7_3)::.inBlock 2::K) fr G Z:=by
 refine Ret_rounds (fun s:List Int×Option Addr×Nat=>60-s.1.length) (fun s fr' G'=>s.1.length≤60∧Chg [A] G G'∧hget G' A=.cells false [.slice s.2.1 s.1.length s.2.2,.slice none 0 0]∧Own G.length G' encI 1 s.2.1 s.2.2 s.1∧fr' 4=.int .i64 ((s.1.length+1:Nat):Int)∧∀j,j≤3∨15≤j∧j≤17→fr' j=fr j) ([],none,0)
  ⟨by simp,Chg.refl,hA,.nil,f4,fun _ _=>rfl⟩ ?_
 rintro ⟨P,p,c⟩ fr' G' ⟨hl,hC,hB,hO,g4,hfr⟩ hN
 simp only at hl hB hO g4
 rw [Ret_code l7_3.eq_1]
 have g2:=(hfr 2 (by decide)).trans f2
 have g3:=(hfr 3 (by decide)).trans f3
 have bX:=fun X=>(Ext.refl.app (X:=X)).cells hB
 have hAl:=hget_alive hB
 have hAG:=hget_alive hA
 have hfr':∀(f:Nat→Value),(∀j,j≤3∨15≤j∧j≤17→f j=fr' j)→∀j,j≤3∨15≤j∧j≤17→f j=fr j:=fun f h j hj=>(h j hj).trans (hfr j hj)
 refine Ret_pad ?_
 by_cases hlt:((P.length+1:Nat):Int)≤m
 case neg=>
  simp only [n7,r7,g2,g3,g4,eq_false hlt,SB,Nat.reduceLT,callee,aOp,ne_eq,Nat.reduceEqDiff,aBin,aUn,if_true,if_false,reduceCtorEq,frame0,place,notTuple,Nat.reduceAdd,Nat.reduceLeDiff,resVal,dite_true,dite_false,Int.reduceEq,Int.reduceLT,Int.reduceLE]
  exact hK _ _ p c P hC.app ((Ext.refl.app).cells hB) (hO.app _) hl (hfr' _ fun j hj=>(by simp only [upd];repeat rw [if_neg (by omega)]))
 obtain ⟨G4,e4,O4,C4,hl4⟩:=Own.moreF hO (lim':=lim) (bytes:=8) (by omega) encI_len (by decide) [((P.length+1:Nat):Int)] (by simp) (by simp;unfold maxBytes;omega) (by simp;omega) [.cells false [.int .i64 ((P.length+1:Nat):Int)]] (x:=.slice (some ⟨G'.length,0,none⟩) 1 1) (str:=false)
  (first_slice (m:=[((P.length+1:Nat):Int)]) (Sl.row (ro:=false) encI_len (by rw [hget_new0];rfl))) rfl
 have hpw:∀j,j∈opB p→G.length≤j:=fun j hj=>by
  cases hpe:p with
  | none=>rw [hpe] at hj;cases hj
  | some a=>rw [hpe] at hj;have:=hO.block hpe;simp [opB] at hj;omega
 generalize hp':(G'++[Blk.cells false [.int .i64 ((P.length+1:Nat):Int)]]).length=r at e4 O4 hl4
 have hr':G'.length≤r:=by rw [←hp'];simp
 generalize loose 1=c' at e4 O4
 simp only [List.length_cons,List.length_nil,Nat.zero_add] at e4
 have k4:=C4.cells hB fun h=>by have:=hpw _ h;omega
 obtain ⟨G5,e5,k5,m5⟩:=mut_set (hget_alive k4) (.cells false [.slice (some ⟨r,0,none⟩) (P.length+1) c',.slice none 0 0])
 have k4X:=fun X=>(Ext.refl.app (X:=X)).cells k4
 have w1:IntKind.i64.wrap (((P.length+1:Nat):Int)+1)=((P.length+1+1:Nat):Int):=wrap_nat (by omega)
 simp only [n7,r7,g2,g3,g4,eq_true hlt,bX,e4,k4X,hlim,e5,w1,SB,Nat.reduceLT,callee,aOp,ne_eq,Nat.reduceEqDiff,aBin,aUn,if_true,if_false,reduceCtorEq,frame0,place,notTuple,Nat.reduceAdd,Nat.reduceLeDiff,resVal,dite_true,dite_false,Int.reduceEq,Int.reduceLT,Int.reduceLE]
 refine hN (P++[((P.length+1:Nat):Int)],some ⟨r,0,none⟩,c') _ _ ⟨by simp;omega,((hC.trans' C4 fun j hj hjl=>by have:=hpw _ hj;omega).mut m5 (.inl (by simp))).app,by simp only [List.length_append,List.length_cons,List.length_nil,Nat.zero_add];exact (Ext.refl.app).cells k5,((O4.le hC.len).mut m5 fun a ha e=>by cases ha;simp only at e;omega).app _,by simp only [List.length_append,List.length_cons,List.length_nil,Nat.zero_add];exact (by simp only [FB,Nat.reduceEqDiff]),hfr' _ fun j hj=>(by simp only [upd];repeat rw [if_neg (by omega)])⟩ (by simp;omega)
def leg29 (k:Nat):Leg:=⟨k,k,((k+1:Nat):Int),Int.tmod ((k:Int)*20) 1440,10,Int.tmod (k:Int) 3,0,127⟩
theorem wide_legs [OB] {A:Nat} {m:Int} {vp:Value} (hlim:lim≤A) (hm:m≤60) (hA:hget G A=.cells false [vp,.slice none 0 0]) (f2:fr 2=.int .i64 m) (f3:fr 3=.pointer (some ⟨A,0,none⟩)) (f5:fr 5=.int .i64 1)
  (hK:∀fr' G' p c L,Chg [A] G G'→hget G' A=.cells false [vp,.slice p (List.length L) c]→Own G.length G' encL 8 p c L→(∀l∈L,By l)→L.length≤60→(∀j,j≤3∨15≤j∧j≤17→fr' j=fr j)→Ret E a7 lim K fr' G' Z) :
  Ret E a7 lim (.code (.loop l7_2)::.inBlock 4::K) fr G Z:=by
 refine Ret_rounds (fun s:List Leg×Option Addr×Nat=>60-s.1.length) (fun s fr' G'=>s.1.length≤60∧Chg [A] G G'∧hget G' A=.cells false [vp,.slice s.2.1 s.1.length s.2.2]∧Own G.length G' encL 8 s.2.1 s.2.2 s.1∧(∀l∈s.1,By l)∧fr' 5=.int .i64 ((s.1.length+1:Nat):Int)∧∀j,j≤3∨15≤j∧j≤17→fr' j=fr j) ([],none,0)
  ⟨by simp,Chg.refl,hA,.nil,(fun l hl=>by simp at hl),f5,fun _ _=>rfl⟩ ?_
 rintro ⟨L,p,c⟩ fr' G' ⟨hl,hC,hB,hO,hby,g5,hfr⟩ hN
 simp only at hl hB hO hby g5
 rw [Ret_code l7_2.eq_1]
 have g2:=(hfr 2 (by decide)).trans f2
 have g3:=(hfr 3 (by decide)).trans f3
 have bX:=fun X=>(Ext.refl.app (X:=X)).cells hB
 have hAl:=hget_alive hB
 have hAG:=hget_alive hA
 have hfr':∀(f:Nat→Value),(∀j,j≤3∨15≤j∧j≤17→f j=fr' j)→∀j,j≤3∨15≤j∧j≤17→f j=fr j:=fun f h j hj=>(h j hj).trans (hfr j hj)
 refine Ret_pad ?_
 obtain ⟨k,hk⟩:∃k,k=L.length+1:=⟨_,rfl⟩
 rw [←hk] at g5
 by_cases hlt:(k:Int)<m
 case neg=>
  simp only [n7,r7,g2,g3,g5,eq_false hlt,SB,Nat.reduceLT,callee,aOp,ne_eq,Nat.reduceEqDiff,aBin,aUn,if_true,if_false,reduceCtorEq,frame0,place,notTuple,Nat.reduceAdd,Nat.reduceLeDiff,resVal,dite_true,dite_false,Int.reduceEq,Int.reduceLT,Int.reduceLE]
  exact hK _ _ p c L hC.app ((Ext.refl.app).cells hB) (hO.app _) hby hl (hfr' _ fun j hj=>(by simp only [upd];repeat rw [if_neg (by omega)]))
 obtain ⟨G4,p',c',e4,O4,C4,K4,hl4,hp4,_⟩:=Own.moreD hO (lim':=lim) (d:=G'.length+1) (bytes:=64) (by omega) encL_len (by decide) [leg29 k] (by simp;unfold maxBytes;omega) (by simp;omega) (by have:=hC.len;omega) [.cells false (encL (leg29 k)),.dead] (by omega) (by simp) (x:=.slice (some ⟨G'.length,0,none⟩) 1 1) (str:=false)
  (first_slice (m:=[leg29 k]) (Sl.row (ro:=false) encL_len (by rw [hget_new0];rfl))) rfl
 simp only [List.length_cons,List.length_nil,Nat.zero_add,List.append_nil] at e4 O4 C4 K4
 have hp4':=hp4 (by simp)
 have hC4:=C4 [A] G (Nat.le_refl _) hC
 have k4:=(K4 A hAl fun a ha e=>by have:=(hO.block ha).1;omega).trans hB
 have e4':aAppend lim (some (G'.length+1)) 8 64 false (.slice p L.length c) (.slice (some ⟨G'.length,0,none⟩) 1 1) (G'++[.cells false (encL (leg29 k)),.dead])=some (.slice p' (L.length+1) c',G4++[]):=by rw [List.append_nil];exact e4
 obtain ⟨G5,e5,k5,m5⟩:=mut_set (hget_alive k4) (.cells false [vp,.slice p' (L.length+1) c'])
 have k4X:=fun X=>(Ext.refl.app (X:=X)).cells k4
 have w1:IntKind.i64.wrap ((k:Int)+1)=((k+1:Nat):Int):=wrap_nat (by omega)
 have w2:IntKind.i64.wrap ((k:Int)*20)=(k:Int)*20:=wrap_id (by omega) (by omega)
 have hda:∀(mp:Bool) (lim:Nat) (H:Heap) (Q:Value→Heap→Prop),CallR E mp lim 4 [.int .i64 (k:Int),.int .i64 (k:Int),.int .i64 ((k+1:Nat):Int),.int .i64 (Int.tmod ((k:Int)*20) 1440),.int .i64 10,.int .i64 (Int.tmod (k:Int) 3)] H Q=Q (.agg (encL (leg29 k)).toArray) H:=fun mp lim H Q=>daily_ok
 simp only [n7,r7,g2,g3,g5,eq_true hlt,bX,w1,w2,hda,encL_len,take_all,setAll_full,e4',k4X,hlim,e5,SB,Nat.reduceLT,callee,aOp,ne_eq,Nat.reduceEqDiff,aBin,aUn,if_true,if_false,reduceCtorEq,frame0,place,notTuple,Nat.reduceAdd,Nat.reduceLeDiff,resVal,dite_true,dite_false,Int.reduceEq,Int.reduceLT,Int.reduceLE]
 refine hN (L++[leg29 k],p',c') _ _ ⟨by simp;omega,(hC4.mut m5 (.inl (by simp))).app,by simp only [List.length_append,List.length_cons,List.length_nil,Nat.zero_add];exact (Ext.refl.app).cells k5,(O4.mut m5 fun a ha e=>by rw [hp4'] at ha;cases ha;simp only at e;omega).app _,(fun l hl=>?_),by simp only [List.length_append,List.length_cons,List.length_nil,Nat.zero_add];rw [←hk];exact (by simp only [FB,Nat.reduceEqDiff]),hfr' _ fun j hj=>(by simp only [upd];repeat rw [if_neg (by omega)])⟩ (by simp;omega)
 rcases List.mem_append.1 hl with h | h
 ·exact hby l h
 ·rw [List.mem_singleton] at h
  subst h
  unfold By
  exact ⟨(by decide:(0:Int)≤127),(by decide:(127:Int)≤255)⟩
end
theorem wide_ok [OB] {mp:Bool} {lim:Nat} {H:Heap} {Q:Value→Heap→Prop}:CallR E mp lim 7 [] H Q=Q (.bool true) H:=by
 refine pc (by decide) e7 rfl rfl ?_
 rw [b7,c7]
 simp only [n7,r7,SB,Nat.reduceLT,callee,aOp,ne_eq,Nat.reduceEqDiff,aBin,aUn,if_true,if_false,reduceCtorEq,frame0,place,notTuple,Nat.reduceAdd,Nat.reduceLeDiff,resVal,dite_true,dite_false,Int.reduceEq,Int.reduceLT,Int.reduceLE]
 refine Ret_rounds (fun i=>3-i) (fun i fr G=>i≤3∧fr 15=.slice (some ⟨H.length,0,none⟩) 3 3∧fr 16=.int .i64 3∧fr 17=.int .i64 (i:Int)∧hget G H.length=.cells false (([49,50,51]:List Int).flatMap encI)∧Chg [] H G) 0 ⟨by decide,(by simp only [FB,Nat.reduceEqDiff]),(by simp only [FB,Nat.reduceEqDiff]),by rfl,by rw [hget_new0];rfl,Chg.refl.app⟩ ?_
 intro i fr G ⟨hi,g15,g16,g17,hs,hC⟩ hN
 rw [Ret_code l7_4.eq_1]
 have hlG:=hC.len
 have sS:Sl G encI 1 (some ⟨H.length,0,none⟩) ([49,50,51]:List Int):=Sl.row encI_len hs
 refine Ret_pad ?_
 by_cases hlt:i<3
 case neg=>
  obtain rfl:i=3:=by omega
  simp only [n7,r7,g15,g16,g17,SB,Nat.reduceLT,callee,aOp,ne_eq,Nat.reduceEqDiff,aBin,aUn,if_true,if_false,reduceCtorEq,frame0,place,notTuple,Nat.reduceAdd,Nat.reduceLeDiff,resVal,dite_true,dite_false,Int.reduceEq,Int.reduceLT,Int.reduceLE]
 have h3:(i:Int)<3:=by omega
 have l1:=ld_ints (i:=i) sS hlt
 have x1:=ix_ints (i:=i) (n:=3) sS hlt rfl
 have w1:IntKind.i64.wrap ((i:Int)+1)=((i+1:Nat):Int):=wrap_nat (by omega)
 have hm:=gt_mem (l:=([49,50,51]:List Int)) (i:=i) hlt
 have hm60:gt ([49,50,51]:List Int) i≤60:=by
  simp only [List.mem_cons,List.not_mem_nil,or_false] at hm
  omega
 simp only [n7,r7,g15,g16,g17,eq_true h3,l1,x1,SB,Nat.reduceLT,callee,aOp,ne_eq,Nat.reduceEqDiff,aBin,aUn,if_true,if_false,reduceCtorEq,frame0,place,notTuple,Nat.reduceAdd,Nat.reduceLeDiff,resVal,dite_true,dite_false,Int.reduceEq,Int.reduceLT,Int.reduceLE]
 generalize gt ([49,50,51]:List Int) i=m at *
 refine wide_plants (A:=G.length) (m:=m) (by omega) hm60 (by rw [hget_new0];rfl) (by simp only [FB,Nat.reduceEqDiff]) (by simp only [FB,Nat.reduceEqDiff]) (by rfl) fun fr1 G1 pp cp P hC1 hA1 hO1 hP hfr1=>?_
 have k2:fr1 2=.int .i64 m:=(hfr1 2 (by decide)).trans (by simp only [FB,Nat.reduceEqDiff])
 have k3:fr1 3=.pointer (some ⟨G.length,0,none⟩):=(hfr1 3 (by decide)).trans (by simp only [FB,Nat.reduceEqDiff])
 have k15:fr1 15=.slice (some ⟨H.length,0,none⟩) 3 3:=(hfr1 15 (by decide)).trans (by simp only [g15,FB,Nat.reduceEqDiff])
 have k16:fr1 16=.int .i64 3:=(hfr1 16 (by decide)).trans (by simp only [g16,FB,Nat.reduceEqDiff])
 have k17:fr1 17=.int .i64 (i:Int):=(hfr1 17 (by decide)).trans (by simp only [g17,FB,Nat.reduceEqDiff])
 refine Ret_pad ?_
 simp only [n7,r7,k2,k3,k15,k16,k17,SB,Nat.reduceLT,callee,aOp,ne_eq,Nat.reduceEqDiff,aBin,aUn,if_true,if_false,reduceCtorEq,frame0,place,notTuple,Nat.reduceAdd,Nat.reduceLeDiff,resVal,dite_true,dite_false,Int.reduceEq,Int.reduceLT,Int.reduceLE]
 refine wide_legs (A:=G.length) (m:=m) (by omega) hm60 ((Ext.refl.app).cells hA1) (by simp only [k2,FB,Nat.reduceEqDiff]) (by simp only [k3,FB,Nat.reduceEqDiff]) (by rfl) fun fr2 G2 pl cl L hC2 hA2 hO2 hby hL hfr2=>?_
 have q2:fr2 2=.int .i64 m:=(hfr2 2 (by decide)).trans (by simp only [k2,FB,Nat.reduceEqDiff])
 have q3:fr2 3=.pointer (some ⟨G.length,0,none⟩):=(hfr2 3 (by decide)).trans (by simp only [k3,FB,Nat.reduceEqDiff])
 have q15:fr2 15=.slice (some ⟨H.length,0,none⟩) 3 3:=(hfr2 15 (by decide)).trans (by simp only [k15,FB,Nat.reduceEqDiff])
 have q16:fr2 16=.int .i64 3:=(hfr2 16 (by decide)).trans (by simp only [k16,FB,Nat.reduceEqDiff])
 have q17:fr2 17=.int .i64 (i:Int):=(hfr2 17 (by decide)).trans (by simp only [k17,FB,Nat.reduceEqDiff])
 have bX:=fun X=>(Ext.refl.app (X:=X)).cells hA2
 have hAl:=hget_alive hA2
 have hl1:=hC1.len
 have hl2:=hC2.len
 simp only [List.length_append,List.length_cons,List.length_nil] at hl1 hl2
 obtain ⟨G4,p',c',e4,O4,C4,K4,hl4,hp4,_⟩:=Own.moreD hO2 (lim':=H.length) (d:=G2.length+1) (bytes:=64) (by simp;omega) encL_len (by decide) [(⟨900,m,1,5,5,5,0,127⟩:Leg)] (by simp;unfold maxBytes;omega) (by simp;omega) (by simp;omega) [.cells false (encL ⟨900,m,1,5,5,5,0,127⟩),.dead] (by omega) (by simp) (x:=.slice (some ⟨G2.length,0,none⟩) 1 1) (str:=false)
  (first_slice (m:=[(⟨900,m,1,5,5,5,0,127⟩:Leg)]) (Sl.row (ro:=false) encL_len (by rw [hget_new0];rfl))) rfl
 have hLl:(L++[(⟨900,m,1,5,5,5,0,127⟩:Leg)]).length=L.length+1:=by simp
 simp only [List.length_cons,List.length_nil,Nat.zero_add,List.append_nil] at e4 O4 C4 K4
 rw [←hLl] at e4
 have hby':∀l∈L++[(⟨900,m,1,5,5,5,0,127⟩:Leg)],By l:=fun l hl=>by
  rcases List.mem_append.1 hl with h | h
  ·exact hby l h
  ·rw [List.mem_singleton] at h
   subst h
   unfold By
   exact ⟨(by decide:(0:Int)≤127),(by decide:(127:Int)≤255)⟩
 generalize L++[(⟨900,m,1,5,5,5,0,127⟩:Leg)]=L' at *
 have hp4':=hp4 (by simp)
 have e4':aAppend H.length (some (G2.length+1)) 8 64 false (.slice pl L.length cl) (.slice (some ⟨G2.length,0,none⟩) 1 1) (G2++[.cells false (encL ⟨900,m,1,5,5,5,0,127⟩),.dead])=some (.slice p' L'.length c',G4++[]):=by rw [List.append_nil];exact e4
 have hplb:∀j,j∈opB pl→G1.length≤j:=fun j hj=>by
  cases hpe:pl with
  | none=>rw [hpe] at hj;cases hj
  | some a=>rw [hpe] at hj;have:=hO2.block hpe;simp [opB] at hj this;omega
 have hC24:Chg (opB pl) G2 G4:=⟨hl4,fun j hj hA=>K4 j hj fun a ha e=>hA (by rw [ha];simp [opB,e])⟩
 have k4:=hC24.cells hA2 fun h=>by have:=hplb _ h;omega
 obtain ⟨G5,e5,k5,m5⟩:=mut_set (hget_alive k4) (.cells false [.slice pp P.length cp,.slice p' L'.length c'])
 have k4X:=fun X=>(Ext.refl.app (X:=X)).cells k4
 have oP2:=(hO1.app []).chg hC2 fun a ha=>by have:=(hO1.block ha).1;simp at this;simp;omega
 have oP5:=(oP2.chg hC24 fun a ha h=>by have h1:=hplb _ h;have:=(hO1.block ha).2;omega).mut m5 fun a ha e=>by have:=(hO1.block ha).1;simp at this;omega
 have oL5:=O4.mut m5 fun a ha e=>by rw [hp4'] at ha;cases ha;simp only at e;omega
 have hn5:NetIn G5 pp p' P L':=⟨oP5.sl encI_len,oL5.sl encL_len,by omega,by omega,hby'⟩
 have hCG1:Chg [] H G1:=(hC.app).trans' hC1 fun j hj hjl=>by simp at hj;omega
 have hCG2:Chg [] H G2:=(hCG1.app).trans' hC2 fun j hj hjl=>by simp at hj;omega
 have hC5:Chg [] H G5:=(hCG2.trans' hC24 fun j hj hjl=>by have:=hplb _ hj;omega).mut m5 (.inr (by omega))
 have hs2:hget G2 H.length=.cells false (([49,50,51]:List Int).flatMap encI):=by
  have hHG:H.length<G.length:=hget_alive hs
  have h1:=hC1.cells ((Ext.refl.app).cells hs) (by simp;omega)
  exact hC2.cells ((Ext.refl.app).cells h1) (by simp;omega)
 have hs5:hget G5 H.length=.cells false (([49,50,51]:List Int).flatMap encI):=by
  have hHG:H.length<G.length:=hget_alive hs
  exact m5.cells (hC24.cells hs2 fun h=>by have:=hplb _ h;omega) (by omega)
 have hlG5:=hC5.len
 refine Ret_pad ?_
 simp only [n7,r7,q2,q3,q15,q16,q17,bX,daily_ok,encL_len,take_all,setAll_full,e4',k4X,show H.length≤G.length by omega,e5,SB,Nat.reduceLT,callee,aOp,ne_eq,Nat.reduceEqDiff,aBin,aUn,if_true,if_false,reduceCtorEq,frame0,place,notTuple,Nat.reduceAdd,Nat.reduceLeDiff,resVal,dite_true,dite_false,Int.reduceEq,Int.reduceLT,Int.reduceLE]
 have b5:hget G5 G.length=.cells false (netV pp P.length cp p' L'.length c'):=k5
 have b5X:=fun X=>(Ext.refl.app (X:=X)).cells b5
 clear k5 k4X k4 e4 e4' e5 m5 oP2 oP5 oL5 hC24 hplb K4 C4 O4 hs2 hA2 hA1 bX
 simp only [n7,r7,q2,q3,q15,q16,q17,b5X,netV_len,netV_0,netV_1,take_all,SB,Nat.reduceLT,callee,aOp,ne_eq,Nat.reduceEqDiff,aBin,aUn,if_true,if_false,reduceCtorEq,frame0,place,notTuple,Nat.reduceAdd,Nat.reduceLeDiff,resVal,dite_true,dite_false,Int.reduceEq,Int.reduceLT,Int.reduceLE]
 refine Arrive_same (hn5.app _) (by simp;omega) fun G6 y6 z6 hC6 s6=>?_
 rw [List.append_nil] at hC6
 have hCH6:=hC5.trans hC6
 have b6:=hC6.cells b5 (by simp)
 have b6X:=fun X=>(Ext.refl.app (X:=X)).cells b6
 have hn6:=hn5.ext hC6.ext
 have hl6:=hCH6.len
 refine Ret_pad ?_
 simp only [n7,r7,q2,q3,q15,q16,q17,b6X,netV_len,netV_0,netV_1,take_all,SB,Nat.reduceLT,callee,aOp,ne_eq,Nat.reduceEqDiff,aBin,aUn,if_true,if_false,reduceCtorEq,frame0,place,notTuple,Nat.reduceAdd,Nat.reduceLeDiff,resVal,dite_true,dite_false,Int.reduceEq,Int.reduceLT,Int.reduceLE]
 refine RArrive_same (hn6.app _) (by simp;omega) fun G7 y7 z7 hC7 s7=>?_
 rw [List.append_nil] at hC7
 have hCH7:=hCH6.trans hC7
 have b7:=hC7.cells b6 (by simp)
 have b7X:=fun X=>(Ext.refl.app (X:=X)).cells b7
 have hn7:=hn6.ext hC7.ext
 have hl7:=hCH7.len
 refine Ret_pad ?_
 simp only [n7,r7,q2,q3,q15,q16,q17,b7X,netV_len,netV_0,netV_1,take_all,SB,Nat.reduceLT,callee,aOp,ne_eq,Nat.reduceEqDiff,aBin,aUn,if_true,if_false,reduceCtorEq,frame0,place,notTuple,Nat.reduceAdd,Nat.reduceLeDiff,resVal,dite_true,dite_false,Int.reduceEq,Int.reduceLT,Int.reduceLE]
 refine Way_same (hn7.app _) (by simp;omega) fun G8 y8 z8 hC8 s8=>?_
 rw [List.append_nil] at hC8
 have hCH8:=hCH7.trans hC8
 have b8:=hC8.cells b7 (by simp)
 have b8X:=fun X=>(Ext.refl.app (X:=X)).cells b8
 have hn8:=hn7.ext hC8.ext
 have hl8:=hCH8.len
 refine Ret_pad ?_
 simp only [n7,r7,q2,q3,q15,q16,q17,b8X,netV_len,netV_0,netV_1,take_all,SB,Nat.reduceLT,callee,aOp,ne_eq,Nat.reduceEqDiff,aBin,aUn,if_true,if_false,reduceCtorEq,frame0,place,notTuple,Nat.reduceAdd,Nat.reduceLeDiff,resVal,dite_true,dite_false,Int.reduceEq,Int.reduceLT,Int.reduceLE]
 refine RWay_same (hn8.app _) (by simp;omega) fun G9 y9 z9 hC9 s9=>?_
 rw [List.append_nil] at hC9
 have hCH9:=hCH8.trans hC9
 have hl9:=hCH9.len
 have hs1:=fun X (mp:Bool) (lim:Nat) (Q:Value→Heap→Prop)=>sameints_ok (mp:=mp) (lim:=lim) (ca:=z6) (cb:=z7) (Q:=Q) (((hC7.ext.trans (hC8.ext.trans hC9.ext)).sl s6).app X) (((hC8.ext.trans hC9.ext).sl s7).app X) (by have:=arrT_len (P:=P) (L:=L') (p:=1) (t:=0);omega)
 rw [decide_eq_true rfl] at hs1
 have s8':=hC9.ext.sl s8
 have hs9:=((hC6.trans hC7).trans (hC8.trans hC9)).cells hs5 (by simp)
 have hwl:=wayT_len (P:=P) (L:=L') (p:=1) (q:=m) (t:=3)
 refine Ret_pad ?_
 simp only [n7,r7,q2,q3,q15,q16,q17,netV_len,netV_0,netV_1,take_all,hs1,SB,Nat.reduceLT,callee,aOp,ne_eq,Nat.reduceEqDiff,aBin,aUn,if_true,if_false,reduceCtorEq,frame0,place,notTuple,Nat.reduceAdd,Nat.reduceLeDiff,resVal,dite_true,dite_false,Int.reduceEq,Int.reduceLT,Int.reduceLE]
 generalize wayT P L' 1 m 3=w at *
 refine Ret_rounds (fun k=>w.length-k) (fun k fr3 G'=>k≤w.length∧fr3 10=.slice y8 w.length z8∧fr3 12=.slice y9 w.length z9∧fr3 14=.int .i64 (k:Int)∧fr3 15=.slice (some ⟨H.length,0,none⟩) 3 3∧fr3 16=.int .i64 3∧fr3 17=.int .i64 (i:Int)∧Ext G9 G') 0 ⟨Nat.zero_le _,(by simp only [FB,Nat.reduceEqDiff]),(by simp only [FB,Nat.reduceEqDiff]),by rfl,(by simp only [q15,FB,Nat.reduceEqDiff]),(by simp only [q16,FB,Nat.reduceEqDiff]),(by simp only [q17,FB,Nat.reduceEqDiff]),Ext.refl.app⟩ ?_
 intro k fr3 G' ⟨hk,g10,g12,g14,p15,p16,p17,hE⟩ hN2
 rw [Ret_code l7_1.eq_1]
 refine Ret_pad ?_
 by_cases hkl:k<w.length
 case neg=>
  simp only [n7,r7,g10,g12,g14,p15,p16,p17,hkl,w1,SB,Nat.reduceLT,callee,aOp,ne_eq,Nat.reduceEqDiff,aBin,aUn,if_true,if_false,reduceCtorEq,frame0,place,notTuple,Nat.reduceAdd,Nat.reduceLeDiff,resVal,dite_true,dite_false,Int.reduceEq,Int.reduceLT,Int.reduceLE]
  exact hN (i+1) _ _ ⟨by omega,(by simp only [p15,FB,Nat.reduceEqDiff]),(by simp only [p16,FB,Nat.reduceEqDiff]),(by simp only [FB,Nat.reduceEqDiff]),(Ext.refl.app).cells (hE.cells hs9),(hCH9.trans hE.chg).app⟩ (by omega)
 have wi:IntKind.i64.wrap ((k:Int)+1)=((k+1:Nat):Int):=wrap_nat (by omega)
 have sA:=hE.sl s8'
 have sB:=hE.sl s9
 have a0:=fun X=>(sA.app X).loadCell enc3_len (i:=k) (j:=0) hkl (by decide)
 have a1:=fun X=>(sA.app X).loadCell enc3_len (i:=k) (j:=1) hkl (by decide)
 have a2:=fun X=>(sA.app X).loadCell enc3_len (i:=k) (j:=2) hkl (by decide)
 have d0:=fun X=>(sB.app X).loadCell enc3_len (i:=k) (j:=0) hkl (by decide)
 have d1:=fun X=>(sB.app X).loadCell enc3_len (i:=k) (j:=1) hkl (by decide)
 have d2:=fun X=>(sB.app X).loadCell enc3_len (i:=k) (j:=2) hkl (by decide)
 have xA:=fun c (kk:IntKind) (H1:Heap)=>sA.idx (c:=c) (k:=kk) (H1:=H1) hkl
 have xB:=fun c (kk:IntKind) (H1:Heap)=>sB.idx (c:=c) (k:=kk) (H1:=H1) hkl
 simp only [enc3,List.getElem?_cons_zero,List.getElem?_cons_succ] at a0 a1 a2 d0 d1 d2
 simp only [n7,r7,g10,g12,g14,p15,p16,p17,hkl,wi,a0,a1,a2,d0,d1,d2,xA,xB,SB,Nat.reduceLT,callee,aOp,ne_eq,Nat.reduceEqDiff,aBin,aUn,if_true,if_false,reduceCtorEq,frame0,place,notTuple,Nat.reduceAdd,Nat.reduceLeDiff,resVal,dite_true,dite_false,Int.reduceEq,Int.reduceLT,Int.reduceLE]
 exact hN2 (k+1) _ _ ⟨by omega,(by simp only [g10,FB,Nat.reduceEqDiff]),(by simp only [g12,FB,Nat.reduceEqDiff]),(by simp only [FB,Nat.reduceEqDiff]),(by simp only [p15,FB,Nat.reduceEqDiff]),(by simp only [p16,FB,Nat.reduceEqDiff]),(by simp only [p17,FB,Nat.reduceEqDiff]),hE.app⟩ (by omega)
end Go.Proofs.Ytfedceicnjnefac.Fn

