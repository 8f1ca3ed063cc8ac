/-
  Joined texts, 7 of 9. A part of the claim that the last text states.
-/
import Derived.Test.YtohnaffmcjbpoaaPD6
set_option linter.unusedVariables false
set_option linter.unusedSimpArgs false
set_option linter.defProp false
set_option linter.unusedSectionVars false
set_option maxRecDepth 100000
set_option maxHeartbeats 4000000
namespace Go.AM.Srt
open Go.AM Go.AM.Sym Go.Sort
variable {E:Env} {iz:Ids} [DT E E] [SortAt E iz] {α:Type} [Inhabited α] {enc:α→List Value} [EncOk enc iz]
def tlc:zAc→zAc
 | .seq _ b=>b
 | x=>x
def unb:zAc→zAc
 | .block _ b=>b
 | x=>x
def q1 (iz:Ids):zAc:=tlc (tlc (tlc (tlc (unb (lPDQ_1 iz)))))
def q2 (iz:Ids):zAc:=tlc (tlc (q1 iz))
def q3 (iz:Ids):zAc:=tlc (q2 iz)
def hdc:zAc→zAc
 | .seq a _=>a
 | x=>x
def p1 (iz:Ids):zAc:=hdc (unb (lPDQ_1 iz))
def p2 (iz:Ids):zAc:=hdc (tlc (unb (lPDQ_1 iz)))
def p3 (iz:Ids):zAc:=hdc (tlc (tlc (unb (lPDQ_1 iz))))
def p4 (iz:Ids):zAc:=hdc (tlc (tlc (tlc (unb (lPDQ_1 iz)))))
theorem body_eq:(lPDQ_1 iz)=.block 1 (.seq (p1 iz) (.seq (p2 iz) (.seq (p3 iz) (.seq (p4 iz) (q1 iz))))):=rfl
def p5 (iz:Ids):zAc:=hdc (q2 iz)
theorem q2_eq:(q2 iz)=.seq (p5 iz) (q3 iz):=rfl
def p6 (iz:Ids):zAc:=hdc (q1 iz)
def p7 (iz:Ids):zAc:=hdc (tlc (q1 iz))
theorem q1_eq:(q1 iz)=.seq (p6 iz) (.seq (p7 iz) (q2 iz)):=rfl
def Done (enc:α→List Value) (G:zH) (B n:Nat) (c:α→α→Int) (a b:Nat) (d:Array α) (X:zH) (v:Value) (H':zH):Prop:=
 ∃d' Y,d'.size=n∧PermIn a b d d'∧SortedIn (ltC c) a b d'∧v=.tuple #[]∧H'=DH enc G B d'++(X++Y)
theorem Done.perm {G:zH} {B n:Nat} {c:α→α→Int} {a b:Nat} {d d1:Array α} {X Y:zH} {v:Value} {H':zH} (h:Done enc G B n c a b d1 (X++Y) v H') (hP:PermIn a b d d1):Done enc G B n c a b d X v H':=by
 obtain ⟨d',Z,h1,h2,h3,h4,h5⟩:=h
 exact ⟨d',Y++Z,h1,permIn_trans _ _ _ _ _ hP h2,h3,h4,by rw [h5];simp⟩
theorem pdq3 {G X:zH} {B lim cap n:Nat} {p:Option Addr} {c:α→α→Int} {cl:FuncId} {cs:List Value} (hp:p=some ⟨B,0,none⟩) (hB:B<G.length) (hl:lim≤B) (hn2:n<2 ^ 61) (hc:∀(mp:Bool) (lim:Nat) (x y:α) (H:zH) (Q:Value→zH→Prop),CallR E mp lim cl (.agg (enc x).toArray::.agg (enc y).toArray::cs) H Q=Q (.int .i64 (c x y)) H) (hS:SWO (ltC c)) {d:Array α} {a b v lm m:Nat} {wb wp:Bool} {fr:Nat→Value} {L:List zAi} (hT:∀(a b lm:Nat) (wb wp:Bool) (d:Array α) (X:zH) (fr:Nat→Value),b-a<m→a≤b→b≤n→d.size=n→Below (ltC c) a b d→lm<2 ^ 60→fr 0=.slice p n cap→fr 1=.int .i64 (a:Int)→fr 2=.int .i64 (b:Int)→fr 3=.int .i64 (lm:Int)→fr 4=.func (.func cl) #[] cs.toArray→fr 10=.bool wb→fr 11=.bool wp→Ret E (aPDQ iz) lim L fr (DH enc G B d++X) (Done enc G B n c a b d X)) (hC:∀(a b lm:Nat) (d:Array α) (X:zH),b-a<m→a≤b→b≤n→d.size=n→Below (ltC c) a b d→lm<2 ^ 60→∃d' Y,d'.size=n∧PermIn a b d d'∧SortedIn (ltC c) a b d'∧∀Q,CallR E false lim iz.PDQ [.slice p n cap,.int .i64 (a:Int),.int .i64 (b:Int),.int .i64 (lm:Int),.func (.func cl) #[] cs.toArray] (DH enc G B d++X) Q=Q (.tuple #[]) (DH enc G B d'++(X++Y))) (hm:b-a≤m) (hd:d.size=n) (hb:b≤n) (hv:a≤v∧v<b) (hlm:lm<2 ^ 60) (hBl:Below (ltC c) a b d) (g0:fr 0=.slice p n cap) (g1:fr 1=.int .i64 (a:Int)) (g2:fr 2=.int .i64 (b:Int)) (g3:fr 3=.int .i64 (lm:Int)) (g4:fr 4=.func (.func cl) #[] cs.toArray) (g10:fr 10=.bool wb) (g11:fr 11=.bool wp) (g12:fr 12=.int .i64 ((b-a:Nat):Int)) (g13:fr 13=.int .i64 (v:Int)) :
  Ret E (aPDQ iz) lim (.code (q3 iz)::.inBlock 1::L) fr (DH enc G B d++X) (Done enc G B n c a b d X):=by
 simp only [q3,q2,q1,tlc,unb,lPDQ_1]
 have ld:=fun (i:Nat) (X:zH) (d:Array α) (hd:d.size=n) (hi:i<n)=>DH_ld (X:=X) (d:=d) (i:=i) hp hB (EncOk.len (enc:=enc) (z:=iz)) (by omega);have st:=fun (i:Nat) (X:zH) (d:Array α) (hd:d.size=n) (hi:i<n) (y:α)=>DH_st (X:=X) (d:=d) (i:=i) (y:=y) hp hB hl (EncOk.len (enc:=enc) (z:=iz)) (by omega);have ix:=fun (i:Nat) (hi:i<n) c (k:IntKind) (H:zH)=>DH_idx (e:=iz.e) (i:=i) (n:=n) (c:=c) (k:=k) (H:=H) hp hi
 have hw0:0<a→IntKind.i64.wrap ((a:Int)-1)=((a-1:Nat):Int):=fun h=>wrap_pred h (by omega)
 have i1:v<n:=by omega
 by_cases c1:0<a∧¬c d[a-1]! d[v]!<0
 ·obtain ⟨c1,c2⟩:=c1
  have i2:a-1<n:=by omega
  have hpe:=fun Q=>peq_ok (X:=X) (cap:=cap) (a:=a) (b:=b) (v:=v) (Q:=Q) hp hB hl hn2 hc hd hb hv.1 hv.2
  generalize hx:partitionEqual (ltC c) d a b v=r at hpe
  obtain ⟨mid,d4⟩:=r
  obtain ⟨r1,r2,r3,r4,r5⟩:=round_eq hS (partitionEqual_holds (ltC c)) c1 hv.1 hv.2 (by omega) hBl (by simp [ltC,c2]) hx
  have hw0':=hw0 c1
  simp only [nPDQ,rPDQ,g0,g1,g2,g3,g4,g10,g11,g12,g13,c1,c2,hw0',ld,st,ix,List.append_nil,Array.size_setIfInBounds,(EncOk.len (enc:=enc) (z:=iz)),hd,i1,i2,hc,hpe,SB,Nat.reduceLT,zCa,aOp,Nat.reduceEqDiff,zB,aUn,reduceCtorEq,zFr,place,zTu,Nat.reduceAdd,Nat.reduceLeDiff,zRe,Int.reduceEq,Int.reduceLT,Int.reduceLE]
  exact (hT mid b lm wb wp d4 X _ (by omega) r2 hb (by omega) r4 hlm (by exact g0) (by rfl) (by exact g2) (by exact g3) (by exact g4) (by exact g10) (by exact g11)).mono fun v H' ⟨d',Y,s1,s2,s3,s4,s5⟩=>⟨d',Y,s1,(r5 d' s2 s3).1,(r5 d' s2 s3).2,s4,s5⟩
 ·have hpt:=fun Q=>part_sort (X:=X) (cap:=cap) (a:=a) (b:=b) (v:=v) (Q:=Q) hp hB hl hn2 hc hd hb hv.1 hv.2
  generalize hx:Sort.partition (ltC c) d a b v=r at hpt
  obtain ⟨mid,ap,d4⟩:=r
  obtain ⟨r1,r2,r3,r4,r5,r6,r7⟩:=round_part hS (partition_holds (ltC c)) hv.1 hv.2 (by omega) hBl hx
  simp only at hpt
  have hw1:IntKind.i64.wrap ((mid:Int)-(a:Int))=((mid-a:Nat):Int):=zWt (by omega) (by omega)
  have hw2:IntKind.i64.wrap ((b:Int)-(mid:Int))=((b-mid:Nat):Int):=zWt (by omega) (by omega)
  have hw3:IntKind.i64.wrap ((mid:Int)+1)=((mid+1:Nat):Int):=zWn (by omega)
  have hq:((b-a:Nat):Int).tdiv 8=(((b-a) / 8:Nat):Int):=tdiv_nat (b:=8)
  have hw4:IntKind.i64.wrap (((b-a) / 8:Nat):Int)=(((b-a) / 8:Nat):Int):=zWt rfl (by omega)
  have hor:(0<a∧c d[a-1]! d[v]!<0)∨¬0<a:=by
   by_cases q:0<a
   ·exact .inl ⟨q,Classical.byContradiction fun q2=>c1 ⟨q,q2⟩⟩
   ·exact .inr q
  by_cases c5:mid-a<b-mid
  ·obtain ⟨dL,Y,l1,l2,l3,l4⟩:=hC a mid lm d4 X (by omega) r1 (by omega) (by omega) r4 hlm
   obtain ⟨k1,k2⟩:=r6 dL l2 l3
   rcases hor with ⟨c2,c3⟩ | c2
   ·have hw0':=hw0 c2
    have i2:a-1<n:=by omega
    simp only [nPDQ,rPDQ,g0,g1,g2,g3,g4,g10,g11,g12,g13,c2,c3,hw0',ld,st,ix,List.append_nil,Array.size_setIfInBounds,(EncOk.len (enc:=enc) (z:=iz)),hd,i1,i2,hc,hpt,hw1,hw2,hw3,hq,hw4,c5,l4,SB,Nat.reduceLT,zCa,aOp,Nat.reduceEqDiff,zB,aUn,reduceCtorEq,zFr,place,zTu,Nat.reduceAdd,Nat.reduceLeDiff,zRe,Int.reduceEq,Int.reduceLT,Int.reduceLE]
    exact (hT (mid+1) b lm (decide ((b-a) / 8≤mid-a)) ap dL (X++Y) _ (by omega) (by omega) hb l1 k1 hlm (by exact g0) (by rfl) (by exact g2) (by exact g3) (by exact g4) (by rfl) (by rfl)).mono fun v H' ⟨d',Z,s1,s2,s3,s4,s5⟩=>⟨d',Y++Z,s1,(k2 d' s2 s3).1,(k2 d' s2 s3).2,s4,by rw [s5];simp⟩
   ·simp only [nPDQ,rPDQ,g0,g1,g2,g3,g4,g10,g11,g12,g13,c2,ld,st,ix,List.append_nil,Array.size_setIfInBounds,(EncOk.len (enc:=enc) (z:=iz)),hd,i1,hc,hpt,hw1,hw2,hw3,hq,hw4,c5,l4,SB,Nat.reduceLT,zCa,aOp,Nat.reduceEqDiff,zB,aUn,reduceCtorEq,zFr,place,zTu,Nat.reduceAdd,Nat.reduceLeDiff,zRe,Int.reduceEq,Int.reduceLT,Int.reduceLE]
    exact (hT (mid+1) b lm (decide ((b-a) / 8≤mid-a)) ap dL (X++Y) _ (by omega) (by omega) hb l1 k1 hlm (by exact g0) (by rfl) (by exact g2) (by exact g3) (by exact g4) (by rfl) (by rfl)).mono fun v H' ⟨d',Z,s1,s2,s3,s4,s5⟩=>⟨d',Y++Z,s1,(k2 d' s2 s3).1,(k2 d' s2 s3).2,s4,by rw [s5];simp⟩
  ·obtain ⟨dL,Y,l1,l2,l3,l4⟩:=hC (mid+1) b lm d4 X (by omega) (by omega) hb (by omega) r5 hlm
   obtain ⟨k1,k2⟩:=r7 dL l2 l3
   rcases hor with ⟨c2,c3⟩ | c2
   ·have hw0':=hw0 c2
    have i2:a-1<n:=by omega
    simp only [nPDQ,rPDQ,g0,g1,g2,g3,g4,g10,g11,g12,g13,c2,c3,hw0',ld,st,ix,List.append_nil,Array.size_setIfInBounds,(EncOk.len (enc:=enc) (z:=iz)),hd,i1,i2,hc,hpt,hw1,hw2,hw3,hq,hw4,c5,l4,SB,Nat.reduceLT,zCa,aOp,Nat.reduceEqDiff,zB,aUn,reduceCtorEq,zFr,place,zTu,Nat.reduceAdd,Nat.reduceLeDiff,zRe,Int.reduceEq,Int.reduceLT,Int.reduceLE]
    exact (hT a mid lm (decide ((b-a) / 8≤b-mid)) ap dL (X++Y) _ (by omega) r1 (by omega) l1 k1 hlm (by exact g0) (by exact g1) (by rfl) (by exact g3) (by exact g4) (by rfl) (by rfl)).mono fun v H' ⟨d',Z,s1,s2,s3,s4,s5⟩=>⟨d',Y++Z,s1,(k2 d' s2 s3).1,(k2 d' s2 s3).2,s4,by rw [s5];simp⟩
   ·simp only [nPDQ,rPDQ,g0,g1,g2,g3,g4,g10,g11,g12,g13,c2,ld,st,ix,List.append_nil,Array.size_setIfInBounds,(EncOk.len (enc:=enc) (z:=iz)),hd,i1,hc,hpt,hw1,hw2,hw3,hq,hw4,c5,l4,SB,Nat.reduceLT,zCa,aOp,Nat.reduceEqDiff,zB,aUn,reduceCtorEq,zFr,place,zTu,Nat.reduceAdd,Nat.reduceLeDiff,zRe,Int.reduceEq,Int.reduceLT,Int.reduceLE]
    exact (hT a mid lm (decide ((b-a) / 8≤b-mid)) ap dL (X++Y) _ (by omega) r1 (by omega) l1 k1 hlm (by exact g0) (by exact g1) (by rfl) (by exact g3) (by exact g4) (by rfl) (by rfl)).mono fun v H' ⟨d',Z,s1,s2,s3,s4,s5⟩=>⟨d',Y++Z,s1,(k2 d' s2 s3).1,(k2 d' s2 s3).2,s4,by rw [s5];simp⟩
theorem pdq2 {G X:zH} {B lim cap n:Nat} {p:Option Addr} {c:α→α→Int} {cl:FuncId} {cs:List Value} (hp:p=some ⟨B,0,none⟩) (hB:B<G.length) (hl:lim≤B) (hn2:n<2 ^ 61) (hc:∀(mp:Bool) (lim:Nat) (x y:α) (H:zH) (Q:Value→zH→Prop),CallR E mp lim cl (.agg (enc x).toArray::.agg (enc y).toArray::cs) H Q=Q (.int .i64 (c x y)) H) (hS:SWO (ltC c)) {d:Array α} {a b v h lm m:Nat} {wb wp:Bool} {fr:Nat→Value} {L:List zAi} (hT:∀(a b lm:Nat) (wb wp:Bool) (d:Array α) (X:zH) (fr:Nat→Value),b-a<m→a≤b→b≤n→d.size=n→Below (ltC c) a b d→lm<2 ^ 60→fr 0=.slice p n cap→fr 1=.int .i64 (a:Int)→fr 2=.int .i64 (b:Int)→fr 3=.int .i64 (lm:Int)→fr 4=.func (.func cl) #[] cs.toArray→fr 10=.bool wb→fr 11=.bool wp→Ret E (aPDQ iz) lim L fr (DH enc G B d++X) (Done enc G B n c a b d X)) (hC:∀(a b lm:Nat) (d:Array α) (X:zH),b-a<m→a≤b→b≤n→d.size=n→Below (ltC c) a b d→lm<2 ^ 60→∃d' Y,d'.size=n∧PermIn a b d d'∧SortedIn (ltC c) a b d'∧∀Q,CallR E false lim iz.PDQ [.slice p n cap,.int .i64 (a:Int),.int .i64 (b:Int),.int .i64 (lm:Int),.func (.func cl) #[] cs.toArray] (DH enc G B d++X) Q=Q (.tuple #[]) (DH enc G B d'++(X++Y))) (hm:b-a≤m) (hd:d.size=n) (hb:b≤n) (hv:a≤v∧v<b) (hlm:lm<2 ^ 60) (hh:h≤2) (hBl:Below (ltC c) a b d) (g0:fr 0=.slice p n cap) (g1:fr 1=.int .i64 (a:Int)) (g2:fr 2=.int .i64 (b:Int)) (g3:fr 3=.int .i64 (lm:Int)) (g4:fr 4=.func (.func cl) #[] cs.toArray) (g10:fr 10=.bool wb) (g11:fr 11=.bool wp) (g12:fr 12=.int .i64 ((b-a:Nat):Int)) (g13:fr 13=.int .i64 (v:Int)) (g14:fr 14=.int .i64 (h:Int)) :
  Ret E (aPDQ iz) lim (.code (q2 iz)::.inBlock 1::L) fr (DH enc G B d++X) (Done enc G B n c a b d X):=by
 have h3:=fun d fr hd hBl=>pdq3 (X:=X) (d:=d) (fr:=fr) (a:=a) (b:=b) (v:=v) (lm:=lm) (wb:=wb) (wp:=wp) hp hB hl hn2 hc hS hT hC hm hd hb hv hlm hBl
 by_cases c1:wb=true∧wp=true∧h=1
 ·obtain ⟨rfl,rfl,rfl⟩:=c1
  have hpi:=fun Q=>pis_ok (X:=X) (cap:=cap) (a:=a) (b:=b) (Q:=Q) hp hB hl hn2 hc hd hb (by omega)
  have hps:=partialInsertionSort_holds hS d a b (by omega) (by omega) hBl
  generalize partialInsertionSort (ltC c) d a b=r at hpi hps
  obtain ⟨d3,fl⟩:=r
  obtain ⟨P3,S3⟩:=hps
  simp only at hpi P3 S3
  have g14':fr 14=.int .i64 1:=g14
  have hd3:d3.size=n:=by rw [P3.1];exact hd
  cases fl with
  | true=>
    rw [zRc q2_eq];simp only [p5,hdc,tlc,unb,q1,q2,lPDQ_1]
    simp only [nPDQ,rPDQ,g0,g1,g2,g3,g4,g10,g11,g12,g13,g14',hpi,SB,Nat.reduceLT,zCa,aOp,Nat.reduceEqDiff,zB,aUn,reduceCtorEq,zFr,place,zTu,Nat.reduceAdd,Nat.reduceLeDiff,zRe,Int.reduceEq,Int.reduceLT,Int.reduceLE]
    exact ⟨d3,[],hd3,P3,S3 rfl,rfl,by simp⟩
  | false=>
    have hB3:=hBl.perm (by omega) P3
    have:=h3 d3
    rw [zRc q2_eq];simp only [p5,hdc,tlc,unb,q1,q2,lPDQ_1]
    simp only [nPDQ,rPDQ,g0,g1,g2,g3,g4,g10,g11,g12,g13,g14',hpi,SB,Nat.reduceLT,zCa,aOp,Nat.reduceEqDiff,zB,aUn,reduceCtorEq,zFr,place,zTu,Nat.reduceAdd,Nat.reduceLeDiff,zRe,Int.reduceEq,Int.reduceLT,Int.reduceLE]
    refine Ret.mono (h3 d3 _ hd3 hB3 (by exact g0) (by exact g1) (by exact g2) (by exact g3) (by exact g4) (by exact g10) (by exact g11) (by exact g12) (by exact g13)) fun v' H' hq=>?_
    exact Done.perm (Y:=[]) (by rw [List.append_nil];exact hq) P3
 ·have h3':=h3 d
  rw [zRc q2_eq];simp only [p5,hdc,tlc,unb,q1,q2,lPDQ_1]
  cases wb with
  | false=>
    simp only [nPDQ,rPDQ,g0,g1,g2,g3,g4,g10,g11,g12,g13,g14,SB,Nat.reduceLT,zCa,aOp,Nat.reduceEqDiff,zB,aUn,reduceCtorEq,zFr,place,zTu,Nat.reduceAdd,Nat.reduceLeDiff,zRe,Int.reduceEq,Int.reduceLT,Int.reduceLE]
    exact h3' _ hd hBl (by exact g0) (by exact g1) (by exact g2) (by exact g3) (by exact g4) (by exact g10) (by exact g11) (by exact g12) (by exact g13)
  | true=>
    cases wp with
    | false=>
      simp only [nPDQ,rPDQ,g0,g1,g2,g3,g4,g10,g11,g12,g13,g14,SB,Nat.reduceLT,zCa,aOp,Nat.reduceEqDiff,zB,aUn,reduceCtorEq,zFr,place,zTu,Nat.reduceAdd,Nat.reduceLeDiff,zRe,Int.reduceEq,Int.reduceLT,Int.reduceLE]
      exact h3' _ hd hBl (by exact g0) (by exact g1) (by exact g2) (by exact g3) (by exact g4) (by exact g10) (by exact g11) (by exact g12) (by exact g13)
    | true=>
      have c2:¬(h:Int)=1:=fun q=>c1 ⟨rfl,rfl,by omega⟩
      simp only [nPDQ,rPDQ,g0,g1,g2,g3,g4,g10,g11,g12,g13,g14,c2,SB,Nat.reduceLT,zCa,aOp,Nat.reduceEqDiff,zB,aUn,reduceCtorEq,zFr,place,zTu,Nat.reduceAdd,Nat.reduceLeDiff,zRe,Int.reduceEq,Int.reduceLT,Int.reduceLE]
      exact h3' _ hd hBl (by exact g0) (by exact g1) (by exact g2) (by exact g3) (by exact g4) (by exact g10) (by exact g11) (by exact g12) (by exact g13)
theorem pdq1 {G X:zH} {B lim cap n:Nat} {p:Option Addr} {c:α→α→Int} {cl:FuncId} {cs:List Value} (hp:p=some ⟨B,0,none⟩) (hB:B<G.length) (hl:lim≤B) (hn2:n<2 ^ 61) (hc:∀(mp:Bool) (lim:Nat) (x y:α) (H:zH) (Q:Value→zH→Prop),CallR E mp lim cl (.agg (enc x).toArray::.agg (enc y).toArray::cs) H Q=Q (.int .i64 (c x y)) H) (hS:SWO (ltC c)) {d:Array α} {a b lm m:Nat} {wb wp:Bool} {fr:Nat→Value} {L:List zAi} (hT:∀(a b lm:Nat) (wb wp:Bool) (d:Array α) (X:zH) (fr:Nat→Value),b-a<m→a≤b→b≤n→d.size=n→Below (ltC c) a b d→lm<2 ^ 60→fr 0=.slice p n cap→fr 1=.int .i64 (a:Int)→fr 2=.int .i64 (b:Int)→fr 3=.int .i64 (lm:Int)→fr 4=.func (.func cl) #[] cs.toArray→fr 10=.bool wb→fr 11=.bool wp→Ret E (aPDQ iz) lim L fr (DH enc G B d++X) (Done enc G B n c a b d X)) (hC:∀(a b lm:Nat) (d:Array α) (X:zH),b-a<m→a≤b→b≤n→d.size=n→Below (ltC c) a b d→lm<2 ^ 60→∃d' Y,d'.size=n∧PermIn a b d d'∧SortedIn (ltC c) a b d'∧∀Q,CallR E false lim iz.PDQ [.slice p n cap,.int .i64 (a:Int),.int .i64 (b:Int),.int .i64 (lm:Int),.func (.func cl) #[] cs.toArray] (DH enc G B d++X) Q=Q (.tuple #[]) (DH enc G B d'++(X++Y))) (hm:b-a≤m) (hd:d.size=n) (hb:b≤n) (hab:a+12<b) (hlm:lm<2 ^ 60) (hBl:Below (ltC c) a b d) (g0:fr 0=.slice p n cap) (g1:fr 1=.int .i64 (a:Int)) (g2:fr 2=.int .i64 (b:Int)) (g3:fr 3=.int .i64 (lm:Int)) (g4:fr 4=.func (.func cl) #[] cs.toArray) (g10:fr 10=.bool wb) (g11:fr 11=.bool wp) (g12:fr 12=.int .i64 ((b-a:Nat):Int)) :
  Ret E (aPDQ iz) lim (.code (q1 iz)::.inBlock 1::L) fr (DH enc G B d++X) (Done enc G B n c a b d X):=by
 obtain ⟨v,h,s,v1,v2,hh,hcho⟩:=cho_ok (X:=X) (cap:=cap) (lim:=lim) hp hB hl hn2 hc hd hb hab
 by_cases c1:h=2
 ·subst c1
  have hr:=fun Q=>rev_ok (X:=X++[.cells false [.int .i64 (s:Int)]]) (cap:=cap) (a:=a) (b:=b) (Q:=Q) hp hB hl hn2 hc hd hb (by omega)
  have P2:=reverseRange_holds d a b (by omega) (by omega)
  generalize reverseRange d a b=d2 at hr P2
  have hd2:d2.size=n:=by rw [P2.1];exact hd
  have hB2:=hBl.perm (by omega) P2
  have h2:=fun fr=>pdq2 (X:=X++[.cells false [.int .i64 (s:Int)]]) (d:=d2) (fr:=fr) (a:=a) (b:=b) (v:=b-1-(v-a)) (h:=1) (lm:=lm) (wb:=wb) (wp:=wp) hp hB hl hn2 hc hS hT hC hm hd2 hb (by omega) hlm (by omega) hB2
  have hw1:IntKind.i64.wrap ((b:Int)-1)=((b-1:Nat):Int):=zWt (by omega) (by omega)
  have hw2:IntKind.i64.wrap ((v:Int)-(a:Int))=((v-a:Nat):Int):=zWt (by omega) (by omega)
  have hw3:IntKind.i64.wrap (((b-1:Nat):Int)-((v-a:Nat):Int))=((b-1-(v-a):Nat):Int):=zWt (by omega) (by omega)
  have hcho':∀Q,CallR E false lim iz.CHO [.slice p n cap,.int .i64 (a:Int),.int .i64 (b:Int),.func (.func cl) #[] cs.toArray] (DH enc G B d++X) Q=Q (.tuple #[.int .i64 (v:Int),.int .i64 2]) (DH enc G B d++(X++[.cells false [.int .i64 (s:Int)]])):=hcho
  rw [zRc q1_eq];simp only [p6,p7,hdc,tlc,unb,q1,lPDQ_1]
  simp only [nPDQ,rPDQ,g0,g1,g2,g3,g4,g10,g11,g12,hcho',hr,hw1,hw2,hw3,SB,Nat.reduceLT,zCa,aOp,Nat.reduceEqDiff,zB,aUn,reduceCtorEq,zFr,place,zTu,Nat.reduceAdd,Nat.reduceLeDiff,zRe,Int.reduceEq,Int.reduceLT,Int.reduceLE]
  refine Ret.mono (h2 _ (by exact g0) (by exact g1) (by exact g2) (by exact g3) (by exact g4) (by exact g10) (by exact g11) (by exact g12) (by rfl) (by simp only [upd_same,upd_ne,ne_eq,Nat.reduceEqDiff,not_false_eq_true];rfl)) fun v' H' hq=>?_
  exact Done.perm hq P2
 ·have c2:¬(h:Int)=2:=by omega
  have h2:=fun fr=>pdq2 (X:=X++[.cells false [.int .i64 (s:Int)]]) (d:=d) (fr:=fr) (a:=a) (b:=b) (v:=v) (h:=h) (lm:=lm) (wb:=wb) (wp:=wp) hp hB hl hn2 hc hS hT hC hm hd hb (by omega) hlm (by omega) hBl
  rw [zRc q1_eq];simp only [p6,p7,hdc,tlc,unb,q1,lPDQ_1]
  simp only [nPDQ,rPDQ,g0,g1,g2,g3,g4,g10,g11,g12,hcho,c2,SB,Nat.reduceLT,zCa,aOp,Nat.reduceEqDiff,zB,aUn,reduceCtorEq,zFr,place,zTu,Nat.reduceAdd,Nat.reduceLeDiff,zRe,Int.reduceEq,Int.reduceLT,Int.reduceLE]
  refine Ret.mono (h2 _ (by exact g0) (by exact g1) (by exact g2) (by exact g3) (by exact g4) (by exact g10) (by exact g11) (by exact g12) (by rfl) (by rfl)) fun v' H' hq=>?_
  exact Done.perm hq (permIn_refl _ _ _)
theorem pdq_loop {G X:zH} {B lim cap n:Nat} {p:Option Addr} {c:α→α→Int} {cl:FuncId} {cs:List Value} (hp:p=some ⟨B,0,none⟩) (hB:B<G.length) (hl:lim≤B) (hn2:n<2 ^ 61) (hc:∀(mp:Bool) (lim:Nat) (x y:α) (H:zH) (Q:Value→zH→Prop),CallR E mp lim cl (.agg (enc x).toArray::.agg (enc y).toArray::cs) H Q=Q (.int .i64 (c x y)) H) (hS:SWO (ltC c)) (hn3:n<65536):∀(m a b lm:Nat) (wb wp:Bool) (d:Array α) (X:zH) (fr:Nat→Value),b-a<m→a≤b→b≤n→d.size=n→Below (ltC c) a b d→lm<2 ^ 60→fr 0=.slice p n cap→fr 1=.int .i64 (a:Int)→fr 2=.int .i64 (b:Int)→fr 3=.int .i64 (lm:Int)→fr 4=.func (.func cl) #[] cs.toArray→fr 10=.bool wb→fr 11=.bool wp→
  Ret E (aPDQ iz) lim (.inLoop (lPDQ_1 iz)::.inBlock 0::[]) fr (DH enc G B d++X) (Done enc G B n c a b d X):=by
 intro m
 induction m with
 | zero=>intro a b lm wb wp d X fr h;omega
 | succ m ih=>
   intro a b lm wb wp d X fr hlt hab hb hd hBl hlm g0 g1 g2 g3 g4 g10 g11
   have hC:∀(a b lm:Nat) (d:Array α) (X:zH),b-a<m→a≤b→b≤n→d.size=n→Below (ltC c) a b d→lm<2 ^ 60→∃d' Y,d'.size=n∧PermIn a b d d'∧SortedIn (ltC c) a b d'∧∀Q,CallR E false lim iz.PDQ [.slice p n cap,.int .i64 (a:Int),.int .i64 (b:Int),.int .i64 (lm:Int),.func (.func cl) #[] cs.toArray] (DH enc G B d++X) Q=Q (.tuple #[]) (DH enc G B d'++(X++Y)):=by
    intro a b lm d X k1 k2 k3 k4 k5 k6
    have key:CallR E false lim iz.PDQ [.slice p n cap,.int .i64 (a:Int),.int .i64 (b:Int),.int .i64 (lm:Int),.func (.func cl) #[] cs.toArray] (DH enc G B d++X) (Done enc G B n c a b d X):=by
     rw [CallR_run (E:=E) (g:=iz.PDQ) (af:=(aPDQ iz)) ((SortAt.PDQ (E:=E) (z:=iz)).2.2 _) (SortAt.PDQ (E:=E) (z:=iz)).1 (SortAt.PDQ (E:=E) (z:=iz)).2.1 rfl]
     rw [bPDQ,cPDQ]
     simp only [nPDQ,rPDQ,SB,Nat.reduceLT,zCa,aOp,Nat.reduceEqDiff,zB,aUn,reduceCtorEq,zFr,place,zTu,Nat.reduceAdd,Nat.reduceLeDiff,zRe,Int.reduceEq,Int.reduceLT,Int.reduceLE]
     rw [Ret_loop,←Ret_inLoop]
     exact ih a b lm true true d X _ k1 k2 k3 k4 k5 k6 (by rfl) (by rfl) (by rfl) (by rfl) (by rfl) (by rfl) (by rfl)
    obtain ⟨k,v,H',hx,d',Y,h1,h2,h3,rfl,rfl⟩:=oneG (SortAt.dt (E:=E) (z:=iz)) key
    exact ⟨d',Y,h1,h2,h3,fun Q=>CallR.det hx⟩
   have h1:=fun d X fr lm hd hBl hab hlm=>pdq1 (X:=X) (d:=d) (fr:=fr) (a:=a) (b:=b) (lm:=lm) (wb:=wb) (wp:=wp) (m:=m) (L:=.inLoop (lPDQ_1 iz)::.inBlock 0::[]) hp hB hl hn2 hc hS ih hC (by omega) hd hb hab hlm hBl
   rw [Ret_inLoop]
   generalize (zAi.inLoop (lPDQ_1 iz)::[zAi.inBlock 0])=L at h1
   rw [zRc body_eq];simp only [p1,p2,p3,p4,hdc,tlc,unb,lPDQ_1]
   have hw1:IntKind.i64.wrap ((b:Int)-(a:Int))=((b-a:Nat):Int):=zWt (by omega) (by omega)
   by_cases c1:b-a≤12
   ·have c1':((b-a:Nat):Int)≤12:=by omega
    have hi:=fun Q=>ins_ok (X:=X) (cap:=cap) (a:=a) (b:=b) (Q:=Q) hp hB hl hn2 hc hd hb hab
    obtain ⟨P,S⟩:=insertionSort_holds hS d a b hab (by omega)
    simp only [nPDQ,rPDQ,g0,g1,g2,g3,g4,g10,g11,hw1,c1',hi,SB,Nat.reduceLT,zCa,aOp,Nat.reduceEqDiff,zB,aUn,reduceCtorEq,zFr,place,zTu,Nat.reduceAdd,Nat.reduceLeDiff,zRe,Int.reduceEq,Int.reduceLT,Int.reduceLE]
    exact ⟨_,[],by rw [P.1];exact hd,P,S,rfl,by simp⟩
   have c1':¬((b-a:Nat):Int)≤12:=by omega
   by_cases c2:lm=0
   ·have c2':(lm:Int)=0:=by omega
    have hi:=fun Q=>heap_ok (X:=X) (cap:=cap) (a:=a) (b:=b) (Q:=Q) hp hB hl hn2 hc hd hb hab
    obtain ⟨P,S⟩:=heapSort_holds hS d a b hab (by omega)
    simp only [nPDQ,rPDQ,g0,g1,g2,g3,g4,g10,g11,hw1,c1',c2',hi,SB,Nat.reduceLT,zCa,aOp,Nat.reduceEqDiff,zB,aUn,reduceCtorEq,zFr,place,zTu,Nat.reduceAdd,Nat.reduceLeDiff,zRe,Int.reduceEq,Int.reduceLT,Int.reduceLE]
    exact ⟨_,[],by rw [P.1];exact hd,P,S,rfl,by simp⟩
   have c2':¬(lm:Int)=0:=by omega
   cases wb with
   | true=>
     simp only [nPDQ,rPDQ,g0,g1,g2,g3,g4,g10,g11,hw1,c1',c2',SB,Nat.reduceLT,zCa,aOp,Nat.reduceEqDiff,zB,aUn,reduceCtorEq,zFr,place,zTu,Nat.reduceAdd,Nat.reduceLeDiff,zRe,Int.reduceEq,Int.reduceLT,Int.reduceLE]
     exact h1 d X _ lm hd hBl (by omega) hlm (by exact g0) (by exact g1) (by exact g2) (by exact g3) (by exact g4) (by exact g10) (by exact g11) (by rfl)
   | false=>
     obtain ⟨d1,s,hd1,P1,hbr⟩:=brk_ok (X:=X) (cap:=cap) (lim:=lim) hp hB hl hn2 hc hd hb (show a+12<b by omega) hn3
     have hw2:IntKind.i64.wrap ((lm:Int)-1)=((lm-1:Nat):Int):=zWt (by omega) (by omega)
     simp only [nPDQ,rPDQ,g0,g1,g2,g3,g4,g10,g11,hw1,c1',c2',hbr,hw2,SB,Nat.reduceLT,zCa,aOp,Nat.reduceEqDiff,zB,aUn,reduceCtorEq,zFr,place,zTu,Nat.reduceAdd,Nat.reduceLeDiff,zRe,Int.reduceEq,Int.reduceLT,Int.reduceLE]
     refine Ret.mono (h1 d1 (X++[.cells false [.int .u64 s]]) _ (lm-1) hd1 (hBl.perm (by omega) P1) (by omega) (by omega) (by exact g0) (by exact g1) (by exact g2) (by rfl) (by exact g4) (by exact g10) (by exact g11) (by rfl)) fun v' H' hq=>?_
     exact Done.perm hq P1
variable {E:Env} {iz:Ids} [DT E E] [SortAt E iz] {α:Type} [Inhabited α] {enc:α→List Value} [EncOk enc iz]
theorem len0_ok {mp:Bool} {lim:Nat} {H:zH} {Q:Value→zH→Prop}:CallR E mp lim iz.LEN [.int .u64 0] H Q=Q (.int .i64 0) H:=by
 have key:∀(mp:Bool) (lim:Nat) (H:zH) (Q:Value→zH→Prop),CallR E mp lim iz.LEN64 [.int .u64 0] H Q=Q (.int .i64 0) H:=by
  intro mp lim H Q
  refine pcG (SortAt.LEN64 (E:=E) (z:=iz)) rfl ?_
  rw [bLEN64,cLEN64]
  have w2:IntKind.u8.wrap 0=0:=by decide
  have w3:IntKind.i64.wrap 0=0:=by decide
  simp only [nLEN64,rLEN64,w2,w3,Int.toNat_zero,List.getElem?_cons_zero,Option.map_some,UInt8.toNat_zero,UInt8.toNat_ofNat,Nat.reduceMod,Nat.reducePow,Int.cast_ofNat_Int,Int.add_zero,SB,Nat.reduceLT,zCa,aOp,Nat.reduceEqDiff,zB,aUn,reduceCtorEq,zFr,place,zTu,Nat.reduceAdd,Nat.reduceLeDiff,zRe,Int.reduceEq,Int.reduceLT,Int.reduceLE]
 refine pcG (SortAt.LEN (E:=E) (z:=iz)) rfl ?_
 rw [bLEN,cLEN]
 simp only [nLEN,rLEN,key,SB,Nat.reduceLT,zCa,aOp,Nat.reduceEqDiff,zB,aUn,reduceCtorEq,zFr,place,zTu,Nat.reduceAdd,Nat.reduceLeDiff,zRe,Int.reduceEq,Int.reduceLT,Int.reduceLE]
theorem pdq_call {G X:zH} {B lim cap n:Nat} {p:Option Addr} {c:α→α→Int} {cl:FuncId} {cs:List Value} (hp:p=some ⟨B,0,none⟩) (hB:B<G.length) (hl:lim≤B) (hn2:n<2 ^ 61) (hc:∀(mp:Bool) (lim:Nat) (x y:α) (H:zH) (Q:Value→zH→Prop),CallR E mp lim cl (.agg (enc x).toArray::.agg (enc y).toArray::cs) H Q=Q (.int .i64 (c x y)) H) (hS:SWO (ltC c)) (hn3:n<65536) {d:Array α} {lm:Nat} (hd:d.size=n) (hlm:lm<2 ^ 60) :
  ∃d' Y,d'.size=n∧PermIn 0 n d d'∧SortedIn (ltC c) 0 n d'∧∀Q,CallR E false lim iz.PDQ [.slice p n cap,.int .i64 0,.int .i64 (n:Int),.int .i64 (lm:Int),.func (.func cl) #[] cs.toArray] (DH enc G B d++X) Q=Q (.tuple #[]) (DH enc G B d'++(X++Y)):=by
 have hBl:Below (ltC c) 0 n d:=by simp [Below]
 have key:CallR E false lim iz.PDQ [.slice p n cap,.int .i64 0,.int .i64 (n:Int),.int .i64 (lm:Int),.func (.func cl) #[] cs.toArray] (DH enc G B d++X) (Done enc G B n c 0 n d X):=by
  rw [CallR_run (E:=E) (g:=iz.PDQ) (af:=(aPDQ iz)) ((SortAt.PDQ (E:=E) (z:=iz)).2.2 _) (SortAt.PDQ (E:=E) (z:=iz)).1 (SortAt.PDQ (E:=E) (z:=iz)).2.1 rfl]
  rw [bPDQ,cPDQ]
  simp only [nPDQ,rPDQ,SB,Nat.reduceLT,zCa,aOp,Nat.reduceEqDiff,zB,aUn,reduceCtorEq,zFr,place,zTu,Nat.reduceAdd,Nat.reduceLeDiff,zRe,Int.reduceEq,Int.reduceLT,Int.reduceLE]
  rw [Ret_loop,←Ret_inLoop]
  exact pdq_loop (X:=X) (cap:=cap) hp hB hl hn2 hc hS hn3 (n+1) 0 n lm true true d X _ (by omega) (by omega) (by omega) hd hBl hlm (by rfl) (by simp only [Int.cast_ofNat_Int,FB,Nat.reduceEqDiff]) (by rfl) (by rfl) (by rfl) (by rfl) (by rfl)
 obtain ⟨k,v,H',hx,d',Y,h1,h2,h3,rfl,rfl⟩:=oneG (SortAt.dt (E:=E) (z:=iz)) key
 exact ⟨d',Y,h1,h2,h3,fun Q=>CallR.det hx⟩
theorem sort_ok {G X:zH} {B lim cap n:Nat} {p:Option Addr} {c:α→α→Int} {cl:FuncId} {cs:List Value} (hp:p=some ⟨B,0,none⟩) (hB:B<G.length) (hl:lim≤B) (hn2:n<2 ^ 61) (hc:∀(mp:Bool) (lim:Nat) (x y:α) (H:zH) (Q:Value→zH→Prop),CallR E mp lim cl (.agg (enc x).toArray::.agg (enc y).toArray::cs) H Q=Q (.int .i64 (c x y)) H) (hS:SWO (ltC c)) (hn3:n<65536) {d:Array α} (hd:d.size=n) :
  ∃d' Y,d'.size=n∧PermIn 0 n d d'∧SortedIn (ltC c) 0 n d'∧∀Q,CallR E false lim iz.SORT [.slice p n cap,.func (.func cl) #[] cs.toArray] (DH enc G B d++X) Q=Q (.tuple #[]) (DH enc G B d'++(X++Y)):=by
 have key:CallR E false lim iz.SORT [.slice p n cap,.func (.func cl) #[] cs.toArray] (DH enc G B d++X) (Done enc G B n c 0 n d X):=by
  rw [CallR_run (E:=E) (g:=iz.SORT) (af:=(aSORT iz)) ((SortAt.SORT (E:=E) (z:=iz)).2.2 _) (SortAt.SORT (E:=E) (z:=iz)).1 (SortAt.SORT (E:=E) (z:=iz)).2.1 rfl]
  rw [bSORT,cSORT]
  have w1:IntKind.u64.wrap (n:Int)=(n:Int):=by rw [wrap64];omega
  by_cases h0:n=0
  ·subst h0
   obtain ⟨d',Y,k1,k2,k3,k4⟩:=pdq_call (X:=X) (lm:=0) (cap:=cap) hp hB hl hn2 hc hS hn3 hd (by omega)
   have k4':∀Q,CallR E false lim iz.PDQ [.slice p 0 cap,.int .i64 0,.int .i64 0,.int .i64 0,.func (.func cl) #[] cs.toArray] (DH enc G B d++X) Q=Q (.tuple #[]) (DH enc G B d'++(X++Y)):=k4
   have w0:IntKind.u64.wrap 0=0:=by decide
   simp only [nSORT,rSORT,w0,len0_ok,k4',SB,Nat.reduceLT,zCa,aOp,Nat.reduceEqDiff,zB,aUn,reduceCtorEq,zFr,place,zTu,Nat.reduceAdd,Nat.reduceLeDiff,zRe,Int.reduceEq,Int.reduceLT,Int.reduceLE]
   exact ⟨_,_,k1,k2,k3,rfl,rfl⟩
  ·obtain ⟨L,l1,l2,l3,l4⟩:=len_ok (E:=E) (iz:=iz) (x:=n) hn3 (by omega)
   obtain ⟨d',Y,k1,k2,k3,k4⟩:=pdq_call (X:=X) (lm:=L) (cap:=cap) hp hB hl hn2 hc hS hn3 hd (by omega)
   simp only [nSORT,rSORT,w1,l4,k4,SB,Nat.reduceLT,zCa,aOp,Nat.reduceEqDiff,zB,aUn,reduceCtorEq,zFr,place,zTu,Nat.reduceAdd,Nat.reduceLeDiff,zRe,Int.reduceEq,Int.reduceLT,Int.reduceLE]
   exact ⟨_,_,k1,k2,k3,rfl,rfl⟩
 obtain ⟨k,v,H',hx,d',Y,h1,h2,h3,rfl,rfl⟩:=oneG (SortAt.dt (E:=E) (z:=iz)) key
 exact ⟨d',Y,h1,h2,h3,fun Q=>CallR.det hx⟩
theorem sort_nil {lim cap:Nat} {p:Option Addr} {cl:FuncId} {cs:List Value} {H:zH} {Q:Value→zH→Prop}:CallR E false lim iz.SORT [.slice p 0 cap,.func (.func cl) #[] cs.toArray] H Q=Q (.tuple #[]) H:=by
 have hi:∀Q,CallR E false lim iz.INS [.slice p 0 cap,.int .i64 0,.int .i64 0,.func (.func cl) #[] cs.toArray] H Q=Q (.tuple #[]) H:=by
  intro Q
  refine runs (SortAt.INS (E:=E) (z:=iz)) ?_
  rw [bINS,cINS]
  have w1:IntKind.i64.wrap 1=1:=by decide
  simp only [nINS,rINS,w1,Int.zero_add,Int.reduceLT,decide_false,SB,Nat.reduceLT,zCa,aOp,Nat.reduceEqDiff,zB,aUn,reduceCtorEq,zFr,place,zTu,Nat.reduceAdd,Nat.reduceLeDiff,zRe,Int.reduceEq,Int.reduceLT,Int.reduceLE]
  rw [Ret_loop,zRc (lINS_2.eq_1 iz)]
  simp only [nINS,rINS,SB,Nat.reduceLT,zCa,aOp,Nat.reduceEqDiff,zB,aUn,reduceCtorEq,zFr,place,zTu,Nat.reduceAdd,Nat.reduceLeDiff,zRe,Int.reduceEq,Int.reduceLT,Int.reduceLE]
 have hq:∀Q,CallR E false lim iz.PDQ [.slice p 0 cap,.int .i64 0,.int .i64 0,.int .i64 0,.func (.func cl) #[] cs.toArray] H Q=Q (.tuple #[]) H:=by
  intro Q
  refine runs (SortAt.PDQ (E:=E) (z:=iz)) ?_
  rw [bPDQ,cPDQ]
  simp only [nPDQ,rPDQ,SB,Nat.reduceLT,zCa,aOp,Nat.reduceEqDiff,zB,aUn,reduceCtorEq,zFr,place,zTu,Nat.reduceAdd,Nat.reduceLeDiff,zRe,Int.reduceEq,Int.reduceLT,Int.reduceLE]
  rw [Ret_loop,zRc body_eq]
  simp only [p1,p2,hdc,tlc,unb,lPDQ_1]
  have w1:IntKind.i64.wrap 0=0:=by decide
  simp only [nPDQ,rPDQ,w1,hi,Int.sub_self,SB,Nat.reduceLT,zCa,aOp,Nat.reduceEqDiff,zB,aUn,reduceCtorEq,zFr,place,zTu,Nat.reduceAdd,Nat.reduceLeDiff,zRe,Int.reduceEq,Int.reduceLT,Int.reduceLE]
 refine runs (SortAt.SORT (E:=E) (z:=iz)) ?_
 rw [bSORT,cSORT]
 have w0:IntKind.u64.wrap 0=0:=by decide
 simp only [nSORT,rSORT,w0,len0_ok,hq,SB,Nat.reduceLT,zCa,aOp,Nat.reduceEqDiff,zB,aUn,reduceCtorEq,zFr,place,zTu,Nat.reduceAdd,Nat.reduceLeDiff,zRe,Int.reduceEq,Int.reduceLT,Int.reduceLE]
end Go.AM.Srt

namespace Go.Proofs.Ytohnaffmcjbpoaa.Fn
open Go.AM Go.AM.Sym Go.Net Go.Flow Go.Sort
theorem kn [OB] [OB] {g:FuncId} {af:zAf} {p:Bool} (h1:tr g=some af) (h2:pf g=p) (h3:g≠9∧g≠999):Srt.Knows E g af p:=⟨h1,h2,fun as=>by simp [E,orc,h3]⟩
instance sortP [OB]:Srt.SortAt E zP:=⟨rfl,kn rfl rfl (by decide),kn rfl rfl (by decide),kn rfl rfl (by decide),kn rfl rfl (by decide),kn rfl rfl (by decide),kn rfl rfl (by decide),kn rfl rfl (by decide),kn rfl rfl (by decide),kn rfl rfl (by decide),kn rfl rfl (by decide),kn rfl rfl (by decide),kn rfl rfl (by decide),kn rfl rfl (by decide),kn rfl rfl (by decide),kn rfl rfl (by decide),kn rfl rfl (by decide),kn rfl rfl (by decide),kn rfl rfl (by decide)⟩
instance encP:Srt.EncOk enc2 zP:=⟨fun _=>rfl⟩
instance (a b:Int×Int):Decidable (plLt a b):=by unfold plLt;infer_instance
def cmp2 (a b:Int×Int):Int:=orL [cmpI a.1 b.1,cmpI a.2 b.2]
theorem cmp2_ok [OB] (mp:Bool) (lim:Nat) (a b:Int×Int) (H:zH) (Q:Value→zH→Prop):CallR E mp lim 70 [.agg (enc2 a).toArray,.agg (enc2 b).toArray] H Q=Q (.int .i64 (cmp2 a b)) H:=by
 refine pc (by decide) e70 rfl rfl ?_
 rw [b70,c70]
 simp only [n70,r70,enc2,cmp_ok,or_lit,isCells_cells,cellsOf_cells,intsOf_cons,intsOf_nil,okInts_cons,okInts_nil,Nat.reducePow,SB,Nat.reduceLT,zCa,aOp,Nat.reduceEqDiff,zB,aUn,reduceCtorEq,zFr,place,zTu,Nat.reduceAdd,Nat.reduceLeDiff,zRe,Int.reduceEq,Int.reduceLT,Int.reduceLE]
 rfl
theorem cmpI_1 {a b:Int} (h:a<b):cmpI a b=-1:=if_pos h
theorem cmpI_2 {a b:Int} (h:b<a):cmpI a b=1:=by unfold cmpI;rw [if_neg (by omega),if_pos h]
theorem cmpI_0 {a b:Int} (h:a=b):cmpI a b=0:=by unfold cmpI;rw [if_neg (by omega),if_neg (by omega)]
theorem cmp2_lt {a b:Int×Int}:Srt.ltC cmp2 a b=decide (plLt a b):=by
 unfold Srt.ltC
 have e:cmp2 a b<0↔plLt a b:=by
  have e0:cmp2 a b=if cmpI a.1 b.1≠0 then cmpI a.1 b.1 else if cmpI a.2 b.2≠0 then cmpI a.2 b.2 else 0:=rfl
  rw [e0]
  unfold plLt
  rcases Int.lt_trichotomy a.1 b.1 with h | h | h
  ·rw [cmpI_1 h];simp [h]
  ·rw [cmpI_0 h]
   rcases Int.lt_trichotomy a.2 b.2 with h2 | h2 | h2
   ·rw [cmpI_1 h2];simp [h,h2]
   ·rw [cmpI_0 h2];simp [h,h2]
   ·rw [cmpI_2 h2];simp [h];omega
  ·rw [cmpI_2 h];simp;omega
 rw [Bool.eq_iff_iff,decide_eq_true_eq,decide_eq_true_eq]
 exact e
theorem cmp2_swo:SWO (Srt.ltC cmp2):=by
 refine ⟨fun x=>?_,fun x y z h1 h2=>?_,fun x y z h1 h2=>?_⟩
 ·rw [cmp2_lt];simp [plLt]
 ·rw [cmp2_lt,decide_eq_true_eq] at h1 h2⊢
  unfold plLt at *;omega
 ·rw [cmp2_lt,decide_eq_false_iff_not] at h1 h2⊢
  unfold plLt at *;omega
section
variable {α:Type} [Inhabited α]
theorem DH_sameG {enc:α→List Value} {G:zH} {B:Nat} {l:List α} (hB:zG G B=.cells false (l.flatMap enc)):DH enc G B l.toArray=G:=by
 have hl:=zHa hB
 unfold DH
 apply List.ext_getElem
 ·simp
 intro i h1 h2
 rw [List.getElem_set]
 split
 ·rename_i e;subst e
  unfold zG at hB
  rw [List.getD_eq_getElem?_getD,List.getElem?_eq_getElem hl] at hB
  exact hB.symm
 ·rfl
theorem perm_listG {n:Nat} {d d':Array α} (hd:d.size=n) (h:PermIn 0 n d d'):d'.toList.Perm d.toList:=by
 obtain ⟨h1,h2,h3⟩:=h
 subst hd
 rw [Array.extract_size] at h3
 rw [←h1,Array.extract_size] at h3
 exact h3
end
theorem sortP_ok [OB] {lim cp:Nat} {pp:Option Addr} {lo:Nat} {PL:List (Int×Int)} {G:zH} {Q:Value→zH→Prop} (hO:Own lo G enc2 2 pp cp PL) (hlo:lim≤lo) (hn:PL.length<65536) (hnd:PL.Nodup)
  (hQ:∀G' SL,Own lo G' enc2 2 pp cp SL→SL.Perm PL→SL.Pairwise plLt→(∀b,b<G.length→b∉opB pp→zG G' b=zG G b)→G.length≤G'.length→Q (.tuple #[]) G') :
  CallR E false lim 69 [.slice pp PL.length cp,.func (.func 70) #[] #[]] G Q:=by
 rcases hO with ⟨h0,rfl,rfl⟩ | ⟨R,rfl,rfl,hR,hRl⟩
 ·subst h0
  have hs:CallR E false lim 69 [.slice none 0 0,.func (.func 70) #[] #[]] G Q=Q (.tuple #[]) G:=Srt.sort_nil (iz:=zP) (cs:=[])
  rw [List.length_nil,hs]
  exact hQ G [] .nil (List.Perm.refl _) List.Pairwise.nil (fun _ _ _=>rfl) (Nat.le_refl _)
 ·obtain ⟨d,Y,h1,h2,h3,h4⟩:=Srt.sort_ok (E:=E) (iz:=zP) (enc:=enc2) (X:=[]) (G:=G) (B:=R) (lim:=lim) (cap:=loose 2) (n:=PL.length) (p:=some ⟨R,0,none⟩) (c:=cmp2) (cl:=70) (cs:=[]) rfl (zHa hR) (by omega) (by omega) (fun mp lim x y H Q=>cmp2_ok mp lim x y H Q) cmp2_swo (by omega) (d:=PL.toArray) (by simp)
  rw [DH_sameG hR] at h4
  have hp:d.toList.Perm PL:=perm_listG (d:=PL.toArray) (n:=PL.length) (by simp) h2
  simp only [List.nil_append,List.append_nil] at h4
  have h4':CallR E false lim 69 [.slice (some ⟨R,0,none⟩) PL.length (loose 2),.func (.func 70) #[] #[]] G Q=Q (.tuple #[]) (DH enc2 G R d++Y):=h4 Q
  rw [h4']
  have hRl':=zHa hR
  have hm:Mut G (DH enc2 G R d) R:=⟨by simp [DH],fun j hj=>zHs hj⟩
  refine hQ _ d.toList (.inr ⟨R,rfl,rfl, ?_,hRl⟩) hp ?_ (fun b hb hn=>?_) (by have:=hm.len;simp;omega)
  ·rw [zHo (by have:=hm.len;omega)]
   have:=DH_get (X:=[]) (enc:=enc2) (d:=d) hRl'
   rw [List.append_nil] at this
   exact this
  ·rw [List.pairwise_iff_getElem]
   intro i j hi hj hij
   have q1:=h3 i j (Nat.zero_le _) hij (by simpa [h1] using hj)
   rw [cmp2_lt] at q1
   have e1:d[i]! = d.toList[i]:=by rw [getElem!_pos d i (by simpa using hi)];simp
   have e2:d[j]! = d.toList[j]:=by rw [getElem!_pos d j (by simpa using hj)];simp
   rw [e1,e2] at q1
   have hne:d.toList[i]≠d.toList[j]:=fun e=>by
    have:=(List.pairwise_iff_getElem.1 (hp.nodup_iff.2 hnd)) i j hi hj hij
    exact this e
   rw [decide_eq_false_iff_not] at q1
   unfold plLt at q1
   have hne2:¬(d.toList[i].1=d.toList[j].1∧d.toList[i].2=d.toList[j].2):=fun ⟨a,b⟩=>hne (Prod.ext a b)
   unfold plLt;omega
  ·rw [zHo (by have:=hm.len;omega)]
   exact hm.other b fun e=>hn (zOm.2 ⟨_,rfl,e.symm⟩)
end Go.Proofs.Ytohnaffmcjbpoaa.Fn

namespace Go.Proofs.Ytohnaffmcjbpoaa.Fn
open Go.AM Go.AM.Sym Go.Net Go.Flow
theorem chainP_snoc:∀(l:List (Int×Int)) (a b:Int×Int) (k:Nat),zCp (l++[a,b]) k=zCp (l++[a]) k++if a.1=b.1 then [⟨k+l.length+1,k+l.length,big,0⟩] else []
 | [],a,b,k=>by simp [zCp]
 | [x],a,b,k=>by
   simp only [List.cons_append,List.nil_append,zCp,List.append_nil,List.length_cons,List.length_nil,Nat.zero_add]
 | x::y::l,a,b,k=>by
   have ih:=chainP_snoc (y::l) a b (k+1)
   simp only [List.cons_append] at ih⊢
   rw [zCp,zCp,ih,List.append_assoc]
   simp only [List.length_cons]
   rw [show k+1+(l.length+1)=k+(l.length+1+1) by omega]
theorem chainP_take {SL:List (Int×Int)} {i:Nat} (h0:0<i) (hi:i<SL.length):zCp (SL.take (i+1)) 2=zCp (SL.take i) 2++if (gt SL (i-1)).1=(gt SL i).1 then [⟨i+2,i+1,big,0⟩] else []:=by
 obtain ⟨m,rfl⟩:∃m,i=m+1:=⟨i-1,by omega⟩
 have e1:SL.take (m+1+1)=SL.take m++[gt SL m,gt SL (m+1)]:=by
  rw [List.take_succ_eq_append_getElem hi,List.take_succ_eq_append_getElem (by omega),List.append_assoc,zGl hi,zGl (by omega)];rfl
 have e2:SL.take (m+1)=SL.take m++[gt SL m]:=by rw [List.take_succ_eq_append_getElem (by omega),zGl (by omega)]
 rw [e1,e2,chainP_snoc,List.length_take,Nat.min_eq_left (by omega)]
 simp only [Nat.add_sub_cancel]
 congr 1
 split<;>simp<;>omega
theorem chainP_one {SL:List (Int×Int)}:zCp (SL.take 1) 2=[]:=by
 cases SL with
 | nil=>rfl
 | cons a l=>rfl
theorem joinO_short {out:List (List Nat)} {f t i v:Nat} (hf:f<out.length) (ht:t<out.length):(gt (joinO out f t i) v).length≤(gt out v).length+2:=by
 unfold joinO
 rw [gt_set (by simpa using ht),gt_set hf,gt_set hf]
 split<;>split<;>(try split)<;>simp<;>(try subst_vars)<;>(try simp)<;>omega
def NumOk (SL:List (Int×Int)) (es:List ((Int×Int)×Int)):Prop:=∀j,j<SL.length→getK (gt SL j) es=some ((j+2:Nat):Int)
theorem JS.keep {A Bo:Nat} {X:List Nat} {G G':zH} {vp vm v4 v5 vw vmost:Value} {pa:Option Addr} {ca co:Nat} {ols:List Ref} {out:List (List Nat)} {l:List Pr} (h:JS A Bo X G vp vm v4 v5 vw vmost pa ca co ols out l) (hk:∀b,b=A∨Bo≤b→b<G.length→zG G' b=zG G b) (hl:G.length≤G'.length):JS A Bo X G' vp vm v4 v5 vw vmost pa ca co ols out l:=by
 have hAl:=zHa h.hdr
 have hBl:=zHa h.os.ou
 refine ⟨(hk A (.inl rfl) hAl).trans h.hdr,own_simG h.ar fun a ha=>?_,h.os.sim (hk Bo (.inr (Nat.le_refl _)) hBl) (fun u a hu ha=>?_) hl,h.ab,h.ax⟩
 ·have:=h.ar.block ha
  exact hk _ (.inr (by omega)) this.2
 ·have:=(h.os.us u hu).1.block ha
  exact hk _ (.inr (by omega)) this.2
theorem fk_of_get {κ ν:Type} [DecidableEq κ] {k:κ} {l:List (κ×ν)} (h:getK k l≠none):∃j v,fk k l 0=some (j,v):=by
 have:=fk_get k l 0
 cases hf:fk k l 0 with
 | none=>rw [hf] at this;exact absurd this.symm h
 | some x=>exact ⟨x.1,x.2,rfl⟩
theorem order_ok [OB] {lim A M:Nat} {X:List Nat} {G:zH} {pp:Option Addr} {cp:Nat} {v2 v3 v4 v5 vw vmost:Value} {PL:List (Int×Int)} {Q:Value→zH→Prop} (h:PS A M X G pp cp [.slice none 0 0,v3,v4,v5,vw,vmost] PL) (hlm:lim≤M) (hl:PL.length<60000)
  (hQ:∀G' pp' cp' SL Bo pa ca co ols out es,JS A Bo [] G' (.slice pp' SL.length cp') (.map (some M)) v4 v5 vw vmost pa ca co ols out (zCp SL 2)→SL.Perm PL→SL.Pairwise plLt→OutOk (zCp SL 2) out→out.length=SL.length+2→(∀v,(gt out v).length≤2*(zCp SL 2).length)→(zCp SL 2).length≤SL.length→Own (A+1) G' enc2 2 pp' cp' SL→(∀a,pp'=some a→a.block<Bo)→G.length≤Bo→zG G' M=.map (encM kM vI es)→NumOk SL es→(∀b∈X,zG G' b=zG G b)→G.length≤G'.length→Q (.tuple #[]) G') :
  CallR E false lim 54 [.pointer (some ⟨A,0,none⟩)] G Q:=by
 refine runs' (by decide) e54 rfl ?_
 rw [b54,c54]
 have hma:=h.ma
 have bAX:=fun X=>(Ext.refl.app (X:=X)).cells h.hdr
 simp only [n54,r54,bAX,SB,Nat.reduceLT,zCa,aOp,Nat.reduceEqDiff,zB,aUn,reduceCtorEq,zFr,place,zTu,Nat.reduceAdd,Nat.reduceLeDiff,zRe,Int.reduceEq,Int.reduceLT,Int.reduceLE]
 rw [List.append_nil]
 refine sortP_ok h.own (by omega) (by omega) h.nd fun G1 SL O1 hperm hsort hk1 hl1=>?_
 have hSl:SL.length=PL.length:=hperm.length_eq
 have hAl:=zHa h.hdr
 have hMl:M<G.length:=by omega
 have nA:A∉opB pp:=fun hm=>by obtain ⟨a,ha,e⟩:=zOm.1 hm;have:=(h.own.block ha).1;omega
 have nM:M∉opB pp:=fun hm=>by obtain ⟨a,ha,e⟩:=zOm.1 hm;have:=(h.own.block ha).1;omega
 have bA1:=(hk1 A hAl nA).trans h.hdr
 rw [←hSl] at bA1
 have bM1:=(hk1 M hMl nM).trans h.mp
 have bA1X:=fun X=>(Ext.refl.app (X:=X)).cells bA1
 have w2:IntKind.i64.wrap ((SL.length:Int)+2)=((SL.length+2:Nat):Int):=zWn (by omega)
 have hmk:=eq_true (show 0≤((SL.length+2:Nat):Int)∧((SL.length+2:Nat):Int)*24≤2 ^ 45∧((SL.length+2:Nat):Int)<2 ^ 62 by omega)
 obtain ⟨G2,e2,k2,m2⟩:=mut_set (zHa bA1) (.cells false [.slice pp SL.length cp,.map (some M),.slice none 0 0,.slice (some ⟨G1.length,0,none⟩) (SL.length+2) (SL.length+2),v4,v5,vw,vmost])
 have k2X:=fun X=>(Ext.refl.app (X:=X)).cells k2
 refine zRp ?_
 simp only [n54,r54,bA1X,w2,hmk,make1,show lim≤A by omega,e2,k2X,SB,Nat.reduceLT,zCa,aOp,Nat.reduceEqDiff,zB,aUn,reduceCtorEq,zFr,place,zTu,Nat.reduceAdd,Nat.reduceLeDiff,zRe,Int.reduceEq,Int.reduceLT,Int.reduceLE]
 obtain ⟨Bo,hBo⟩:∃Bo,Bo=G1.length:=⟨_,rfl⟩
 rw [←hBo] at k2 k2X
 have el2:=m2.len
 have hAB:A<Bo:=by omega
 have hols:List.replicate (SL.length+2) (Value.slice none 0 0)=(List.replicate (SL.length+2) ((none,0,0):Ref)).flatMap encO:=by
  generalize SL.length+2=n
  induction n with
  | zero=>rfl
  | succ n ih=>rw [List.replicate_succ,List.replicate_succ,List.flatMap_cons,←ih];rfl
 have hgr:∀v,v<SL.length+2→gt (List.replicate (SL.length+2) ((none,0,0):Ref)) v=(none,0,0):=fun v hv=>by rw [zGl (by simpa using hv)];simp
 have hgo:∀v,gt (List.replicate (SL.length+2) ([]:List Nat)) v=[]:=fun v=>by
  unfold gt
  rw [List.getD_eq_getElem?_getD,List.getElem?_replicate];split<;>rfl
 have sim2:∀b,b<G.length→b≠A→b∉opB pp→zG (G2++[Blk.cells false (List.replicate (SL.length+2) (Value.slice none 0 0))]) b=zG G b:=fun b hb hbA hbp=>by
  rw [zHo (by omega),m2.other b hbA,hk1 b hb hbp]
 have js0:JS A Bo [] (G2++[Blk.cells false (List.replicate (SL.length+2) (Value.slice none 0 0))]) (.slice pp SL.length cp) (.map (some M)) v4 v5 vw vmost none 0 (SL.length+2) (List.replicate (SL.length+2) (none,0,0)) (List.replicate (SL.length+2) []) (zCp (SL.take 0) 2):=by
  refine ⟨?_,.nil,⟨?_,fun v hv=>?_,by simp,fun u v a b hu hv huv ha hb=>?_,fun b hb=>by simp [opB] at hb⟩,hAB,fun b hb=>by cases hb⟩
  ·rw [List.length_replicate]
   exact (Ext.refl.app).cells k2
  ·rw [←hols,hBo,←el2,zHn];rfl
  ·rw [List.length_replicate] at hv
   rw [hgr v hv,hgo]
   exact ⟨.nil,rfl⟩
  ·rw [List.length_replicate] at hu
   rw [hgr u hu] at ha;cases ha
 have O3:Own (A+1) (G2++[Blk.cells false (List.replicate (SL.length+2) (Value.slice none 0 0))]) enc2 2 pp cp SL:=(O1.mut m2 fun a ha e=>by have:=(O1.block ha).1;omega).app _
 have hpB:∀a,pp=some a→a.block<Bo∧a.block≠A:=fun a ha=>by have:=O1.block ha;omega
 have bM3:zG (G2++[Blk.cells false (List.replicate (SL.length+2) (Value.slice none 0 0))]) M=.map (encM kM vI (esZ PL)):=by rw [sim2 M hMl (by omega) nM];exact h.mp
 have hX3:∀b∈X,zG (G2++[Blk.cells false (List.replicate (SL.length+2) (Value.slice none 0 0))]) b=zG G b:=fun b hb=>by
  obtain ⟨x1,x2,x3,x4⟩:=h.sx b hb
  exact sim2 b x1 x2 x4
 generalize G2++[Blk.cells false (List.replicate (SL.length+2) (Value.slice none 0 0))]=G3 at *
 refine zRr (fun s:Nat×(Option Addr×Nat)×(List Ref×List (List Nat))×List ((Int×Int)×Int)=>SL.length-s.1) (fun s fr G'=>s.1≤SL.length∧fr 0=.pointer (some ⟨A,0,none⟩)∧fr 22=.slice pp SL.length cp∧fr 23=.int .i64 (SL.length:Int)∧fr 24=.int .i64 (s.1:Int)∧JS A Bo [] G' (.slice pp SL.length cp) (.map (some M)) v4 v5 vw vmost s.2.1.1 s.2.1.2 (SL.length+2) s.2.2.1.1 s.2.2.1.2 (zCp (SL.take s.1) 2)∧
   OutOk (zCp (SL.take s.1) 2) s.2.2.1.2∧s.2.2.1.2.length=SL.length+2∧(∀v,(gt s.2.2.1.2 v).length≤2*(zCp (SL.take s.1) 2).length)∧(zCp (SL.take s.1) 2).length≤s.1∧Own (A+1) G' enc2 2 pp cp SL∧zG G' M=.map (encM kM vI s.2.2.2)∧(∀j,j<s.1→getK (gt SL j) s.2.2.2=some ((j+2:Nat):Int))∧(∀j,j<SL.length→getK (gt SL j) s.2.2.2≠none)∧(∀b∈X,zG G' b=zG G b)∧G.length≤G'.length)
  (0,(none,0),(List.replicate (SL.length+2) (none,0,0),List.replicate (SL.length+2) []),esZ PL)
  ⟨Nat.zero_le _,(by rfl),(by rfl),(by rfl),by rfl,js0,.none,by simp,fun v=>by rw [hgo];simp,by simp [zCp],O3,bM3,fun j hj=>by omega,fun j hj=>?_,hX3,by have:=zHa js0.hdr;have:=zHa js0.os.ou;omega⟩ ?_
 ·rw [esZ_get,if_pos (hperm.mem_iff.1 (gt_mem hj))];simp
 rintro ⟨i,⟨pa,ca⟩,⟨ols,out⟩,es⟩ fr G' ⟨hi,f0,f22,f23,f24,hJ,hOut,hol,hob,hcl,hOw,hMp,hnum,hsome,hX,hlG⟩ hN
 simp only at hi f24 hJ hOut hol hob hcl hMp hnum hsome
 rw [zRc l54_1.eq_1]
 refine zRp ?_
 by_cases hlt:i<SL.length
 case neg=>
  obtain rfl:i=SL.length:=by omega
  rw [List.take_length] at hJ hOut hob hcl
  simp only [n54,r54,f0,f22,f23,f24,hlt,SB,Nat.reduceLT,zCa,aOp,Nat.reduceEqDiff,zB,aUn,reduceCtorEq,zFr,place,zTu,Nat.reduceAdd,Nat.reduceLeDiff,zRe,Int.reduceEq,Int.reduceLT,Int.reduceLE]
  have hBl:=zHa hJ.os.ou
  exact hQ _ pp cp SL Bo pa ca _ ols out es (hJ.keep (fun b _ hb=>zHo hb) (by simp)) hperm hsort hOut hol hob hcl (hOw.app _) (fun a ha=>(hpB a ha).1) (by omega) (by rw [zHo (by omega)];exact hMp) hnum (fun b hb=>by rw [zHo (by have:=(h.sx b hb).1;omega)];exact hX b hb) (by simp;omega)
 have hSi:gt SL i∈SL:=gt_mem hlt
 have sSL:=hOw.sl z2l
 have lS:∀X,AM.loadCells (G'++X) (elt pp 2 i) 2=some [.int .i64 (gt SL i).1,.int .i64 (gt SL i).2]:=fun X=>by rw [(sSL.app X).loadCells z2l hlt];rfl
 have xS:=ix_N sSL hlt rfl
 have bAX':=fun X=>(Ext.refl.app (X:=X)).cells hJ.hdr
 have hMl':M<G'.length:=by omega
 have hBl:=zHa hJ.os.ou
 have hAl':=zHa hJ.hdr
 have bMX:∀X,zG (G'++X) M=.map (encM kM vI es):=fun X=>by rw [zHo hMl'];exact hMp
 obtain ⟨j,v,hj⟩:=fk_of_get (hsome i hlt)
 have hfk:findKey (.agg #[.int .i64 (gt SL i).1,.int .i64 (gt SL i).2]) (encM kM vI es) 0=some ((fk (gt SL i) es 0).map fun x=>(x.1,vI x.2)):=findKey_enc (vv:=vI) kM_eq (gt SL i) es 0
 rw [hj] at hfk
 simp only [Option.map_some] at hfk
 have hko:keyOk (.ints [.i64,.i64]) (.agg #[.int .i64 (gt SL i).1,.int .i64 (gt SL i).2])=true:=kM_ok (k:=gt SL i)
 obtain ⟨G4,e4,k4,m4⟩:=mut_set hMl' (.map ((encM kM vI es).set j (.agg #[.int .i64 (gt SL i).1,.int .i64 (gt SL i).2],.int .i64 ((i+2:Nat):Int))))
 have w3:IntKind.i64.wrap ((i:Int)+2)=((i+2:Nat):Int):=zWn (by omega)
 have w4:IntKind.i64.wrap ((i:Int)+1)=((i+1:Nat):Int):=zWn (by omega)
 have el4:=m4.len
 have bpX:∀x X,zG (G4++x::X) G'.length=x:=fun x X=>by rw [←el4,zHn];rfl
 have hGB:G.length≤Bo:=by omega
 have hpAM:∀a,pp=some a→a.block≠M:=fun a ha=>by have:=(hOw.block ha).1;omega
 obtain ⟨G6,hG6⟩:∃G6,G6=G4++[Blk.cells false [Value.int IntKind.i64 (gt SL i).1,Value.int IntKind.i64 (gt SL i).2]]:=⟨_,rfl⟩
 have hl6:G'.length≤G6.length:=by rw [hG6];simp;omega
 have sim6:∀b,b<G'.length→b≠M→zG G6 b=zG G' b:=fun b hb hbM=>by rw [hG6,zHo (by omega),m4.other b hbM]
 have hJ6:=hJ.keep (G':=G6) (fun b hb hb2=>sim6 b hb2 (by omega)) hl6
 have hOw6:=own_simG hOw fun a ha=>sim6 a.block (hOw.block ha).2 (hpAM a ha)
 have hM6:zG G6 M=.map (encM kM vI (putK (gt SL i) ((i+2:Nat):Int) es)):=by
  rw [hG6,zHo (by omega),k4,←(fk_some (v':=((i+2:Nat):Int)) hj).2.2]
  simp [encM,List.map_set,kM,vI]
 have hX6:∀b∈X,zG G6 b=zG G b:=fun b hb=>by
  obtain ⟨x1,x2,x3,x4⟩:=h.sx b hb
  rw [sim6 b (by omega) x3];exact hX b hb
 have hnd:∀j,j<i→gt SL j≠gt SL i:=fun j hji e=>by
  have hp:=List.pairwise_iff_getElem.1 hsort j i (by omega) hlt hji
  rw [←zGl,←zGl,e] at hp
  unfold plLt at hp;omega
 have hnum6:∀j,j<i+1→getK (gt SL j) (putK (gt SL i) ((i+2:Nat):Int) es)=some ((j+2:Nat):Int):=fun j hji=>by
  rw [getK_put]
  by_cases hjeq:j=i
  ·subst hjeq;rw [if_pos rfl]
  ·rw [if_neg (hnd j (by omega))];exact hnum j (by omega)
 have hsome6:∀j,j<SL.length→getK (gt SL j) (putK (gt SL i) ((i+2:Nat):Int) es)≠none:=fun j hj2=>by
  rw [getK_put];split
  ·simp
  ·exact hsome j hj2
 have bA6X:=fun X=>(Ext.refl.app (X:=X)).cells ((m4.other A (by omega)).trans hJ.hdr)
 by_cases h0:0<i
 case neg=>
  have h0i:¬(0:Int)<(i:Int):=by omega
  have hct:zCp (SL.take (i+1)) 2=zCp (SL.take i) 2:=by
   obtain rfl:i=0:=by omega
   rw [chainP_one];rfl
  simp only [n54,r54,f0,f22,f23,f24,hlt,lS,xS,bAX',bMX,hfk,hko,e4,w3,w4,show lim≤M by omega,show lim≤G'.length by omega,bpX,h0i,h0,SB,Nat.reduceLT,zCa,aOp,Nat.reduceEqDiff,zB,aUn,reduceCtorEq,zFr,place,zTu,Nat.reduceAdd,Nat.reduceLeDiff,zRe,Int.reduceEq,Int.reduceLT,Int.reduceLE]
  rw [←hG6]
  exact hN (i+1,(pa,ca),(ols,out),putK (gt SL i) ((i+2:Nat):Int) es) _ _ ⟨by show i+1≤_;omega,(by exact f0),(by exact f22),(by exact f23),(by rfl),by rw [hct];exact hJ6,by rw [hct];exact hOut,hol,by rw [hct];exact hob,by rw [hct];show _≤i+1;omega,hOw6,hM6,hnum6,hsome6,hX6,by omega⟩ (by show SL.length-(i+1)<SL.length-i;omega)
 have h0i:(0:Int)<(i:Int):=by omega
 have sS6:=hOw6.sl z2l
 have lS6:AM.loadCell (G4++[Blk.cells false [Value.int IntKind.i64 (gt SL i).1,Value.int IntKind.i64 (gt SL i).2]]) ((elt pp 2 (i-1)).add 0)=some (.int .i64 (gt SL (i-1)).1):=by
  rw [←hG6,sS6.loadCell z2l (by omega) (by decide)];rfl
 have xS1:=ix_N (i:=i-1) sSL (show i-1<SL.length by omega) rfl
 have w5:IntKind.i64.wrap ((i:Int)-1)=((i-1:Nat):Int):=by rw [zWi (by omega) (by omega)];omega
 by_cases hs:(gt SL (i-1)).1=(gt SL i).1
 ·have hct:zCp (SL.take (i+1)) 2=zCp (SL.take i) 2++[⟨i+2,i+1,big,0⟩]:=by rw [chainP_take h0 hlt,if_pos hs]
  simp only [n54,r54,f0,f22,f23,f24,hlt,lS,xS,bAX',bMX,hfk,hko,e4,w3,w4,show lim≤M by omega,show lim≤G'.length by omega,bpX,h0i,h0,bA6X,lS6,xS1,w5,hs,SB,Nat.reduceLT,zCa,aOp,Nat.reduceEqDiff,zB,aUn,reduceCtorEq,zFr,place,zTu,Nat.reduceAdd,Nat.reduceLeDiff,zRe,Int.reduceEq,Int.reduceLT,Int.reduceLE]
  rw [←hG6]
  refine join_ok (f:=i+1) (t:=i+2) hJ6 (by omega) (by omega) (by omega) (fun v=>by have:=hob v;omega) (by omega) fun G7 pa' ca' ols' hJ7 hk7 hl7=>?_
  have hM7:=(hk7 M (.inl ⟨by omega,by omega⟩)).trans hM6
  have hOw7:=own_simG hOw6 fun a ha=>hk7 a.block (.inl (hpB a ha))
  have hX7:∀b∈X,zG G7 b=zG G b:=fun b hb=>by
   obtain ⟨x1,x2,x3,x4⟩:=h.sx b hb
   rw [hk7 b (.inl ⟨by omega,x2⟩)];exact hX6 b hb
  simp only [n54,r54,f0,f22,f23,f24,w4,SB,Nat.reduceLT,zCa,aOp,Nat.reduceEqDiff,zB,aUn,reduceCtorEq,zFr,place,zTu,Nat.reduceAdd,Nat.reduceLeDiff,zRe,Int.reduceEq,Int.reduceLT,Int.reduceLE]
  exact hN (i+1,(pa',ca'),(ols',joinO out (i+1) (i+2) (2*(zCp (SL.take i) 2).length)),putK (gt SL i) ((i+2:Nat):Int) es) _ _ ⟨by show i+1≤_;omega,(by exact f0),(by exact f22),(by exact f23),(by rfl),by rw [hct];exact hJ7,by rw [hct];exact hOut.join (by omega) (by omega),by show (joinO _ _ _ _).length=_;rw [joinO_len];exact hol,fun v=>by
   show (gt (joinO _ _ _ _) v).length≤_
   rw [hct,List.length_append]
   have:=joinO_short (out:=out) (f:=i+1) (t:=i+2) (i:=2*(zCp (SL.take i) 2).length) (v:=v) (by omega) (by omega)
   have:=hob v
   simp only [List.length_cons,List.length_nil];omega,by rw [hct,List.length_append];show _+1≤i+1;omega,hOw7,hM7,hnum6,hsome6,hX7,by omega⟩ (by show SL.length-(i+1)<SL.length-i;omega)
 ·have hct:zCp (SL.take (i+1)) 2=zCp (SL.take i) 2:=by rw [chainP_take h0 hlt,if_neg hs,List.append_nil]
  simp only [n54,r54,f0,f22,f23,f24,hlt,lS,xS,bAX',bMX,hfk,hko,e4,w3,w4,show lim≤M by omega,show lim≤G'.length by omega,bpX,h0i,h0,bA6X,lS6,xS1,w5,hs,SB,Nat.reduceLT,zCa,aOp,Nat.reduceEqDiff,zB,aUn,reduceCtorEq,zFr,place,zTu,Nat.reduceAdd,Nat.reduceLeDiff,zRe,Int.reduceEq,Int.reduceLT,Int.reduceLE]
  rw [←hG6]
  exact hN (i+1,(pa,ca),(ols,out),putK (gt SL i) ((i+2:Nat):Int) es) _ _ ⟨by show i+1≤_;omega,(by exact f0),(by exact f22),(by exact f23),(by rfl),by rw [hct];exact hJ6,by rw [hct];exact hOut,hol,by rw [hct];exact hob,by rw [hct];show _≤i+1;omega,hOw6,hM6,hnum6,hsome6,hX6,by omega⟩ (by show SL.length-(i+1)<SL.length-i;omega)
theorem pindex_ok [OB] {mp:Bool} {lim c:Nat} {p:Option Addr} {P:List Int} {a:Int} {H:zH} {Q:Value→zH→Prop} (hs:Sl H encI 1 p P) (hn:P.length<2 ^ 63) :
  CallR E mp lim 62 [.slice p P.length c,.int .i64 a] H Q=Q (.int .i64 (placeN P a)) H:=by
 refine pc (by decide) e62 rfl rfl ?_
 rw [b62,c62]
 simp only [n62,r62,SB,Nat.reduceLT,zCa,aOp,Nat.reduceEqDiff,zB,aUn,reduceCtorEq,zFr,place,zTu,Nat.reduceAdd,Nat.reduceLeDiff,zRe,Int.reduceEq,Int.reduceLT,Int.reduceLE]
 refine zRr (fun j=>P.length-j) (fun j fr G=>j≤P.length∧fr 0=.slice p P.length c∧fr 1=.int .i64 a∧fr 7=.int .i64 (P.length:Int)∧fr 8=.int .i64 (j:Int)∧Ext H G∧∀i,i<j→gt P i≠a) 0 ⟨Nat.zero_le _,(by rfl),(by rfl),(by rfl),by rfl,Ext.refl.app,fun i hi=>by omega⟩ ?_
 intro j fr G ⟨hj,f0,f1,f7,f8,hE,hall⟩ hN
 rw [zRc l62_1.eq_1]
 refine zRp ?_
 by_cases hlt:j<P.length
 case neg=>
  obtain rfl:j=P.length:=by omega
  simp only [n62,r62,f0,f1,f7,f8,hlt,SB,Nat.reduceLT,zCa,aOp,Nat.reduceEqDiff,zB,aUn,reduceCtorEq,zFr,place,zTu,Nat.reduceAdd,Nat.reduceLeDiff,zRe,Int.reduceEq,Int.reduceLT,Int.reduceLE]
  rw [placeN,if_neg fun hm=>?_]
  obtain ⟨i,hi,he⟩:=List.mem_iff_getElem.1 hm
  exact hall i hi (by rw [zGl hi];exact he)
 have hld:=fun X=>((hE.sl hs).app X).loadCell0 zIl hlt (by decide)
 simp only [encI,List.getElem?_cons_zero] at hld
 have hidx:=fun c (k:IntKind) (H1:zH)=>(hE.sl hs).idx (c:=c) (k:=k) (H1:=H1) hlt
 have hw1:IntKind.i64.wrap ((j:Int)+1)=((j+1:Nat):Int):=zWn (by omega)
 by_cases he:a=gt P j
 ·simp only [n62,r62,f0,f1,f7,f8,hlt,hidx,hld,hw1,eq_true he,SB,Nat.reduceLT,zCa,aOp,Nat.reduceEqDiff,zB,aUn,reduceCtorEq,zFr,place,zTu,Nat.reduceAdd,Nat.reduceLeDiff,zRe,Int.reduceEq,Int.reduceLT,Int.reduceLE]
  have hm:a∈P:=he▸gt_mem hlt
  rw [placeN,if_pos hm]
  congr 1
  have h1:posN P a≤j:=by
   unfold posN
   apply Decidable.byContradiction;intro hc
   have:=List.not_of_lt_findIdx (xs:=P) (p:=(· == a)) (i:=j) (by unfold List.idxOf at hc;omega)
   rw [zGl hlt] at he
   simp [he] at this
  rcases Nat.lt_or_ge (posN P a) j with h3 | h3
  ·exfalso
   have hl:posN P a<P.length:=List.idxOf_lt_length_of_mem hm
   have:=List.getElem_idxOf hl
   refine hall _ h3 ?_
   rw [zGl hl];exact this
  ·omega
 ·simp only [n62,r62,f0,f1,f7,f8,hlt,hidx,hld,hw1,eq_false he,SB,Nat.reduceLT,zCa,aOp,Nat.reduceEqDiff,zB,aUn,reduceCtorEq,zFr,place,zTu,Nat.reduceAdd,Nat.reduceLeDiff,zRe,Int.reduceEq,Int.reduceLT,Int.reduceLE]
  exact hN (j+1) _ _ ⟨by omega,(by exact f0),(by exact f1),(by exact f7),(by rfl),hE.app,fun i hi=>by
   rcases Nat.lt_or_ge i j with h | h
   ·exact hall i h
   ·obtain rfl:i=j:=by omega
    exact fun hh=>he hh.symm⟩ (by omega)
theorem has_ok [OB] {mp:Bool} {lim c:Nat} {p:Option Addr} {P:List Int} {a:Int} {H:zH} {Q:Value→zH→Prop} (hs:Sl H encI 1 p P) (hn:P.length<2 ^ 63) :
  CallR E mp lim 43 [.slice p P.length c,.int .i64 a] H Q=Q (.bool (decide (a∈P))) H:=by
 refine pc (by decide) e43 rfl rfl ?_
 rw [b43,c43]
 have hx:=fun X (mp:Bool) (lim:Nat) (Q:Value→zH→Prop)=>pindex_ok (mp:=mp) (lim:=lim) (c:=c) (a:=a) (Q:=Q) (hs.app X) hn
 simp only [n43,r43,hx,SB,Nat.reduceLT,zCa,aOp,Nat.reduceEqDiff,zB,aUn,reduceCtorEq,zFr,place,zTu,Nat.reduceAdd,Nat.reduceLeDiff,zRe,Int.reduceEq,Int.reduceLT,Int.reduceLE]
 by_cases h:a∈P
 ·rw [decide_eq_true (placeN_nn.2 h),decide_eq_true h]
 ·rw [decide_eq_false fun hh=>h (placeN_nn.1 hh),decide_eq_false h]
def encS (x:Flow.Src):List Value:=[.int .i64 x.pl,.int .i64 x.rd,.int .i64 x.gr]
theorem zEl (x:Flow.Src):(encS x).length=3:=id rfl
theorem encS_0 {x:Flow.Src}:(encS x)[0]? = some (.int .i64 x.pl):=id rfl
theorem encS_1 {x:Flow.Src}:(encS x)[1]? = some (.int .i64 x.rd):=id rfl
theorem encS_2 {x:Flow.Src}:(encS x)[2]? = some (.int .i64 x.gr):=id rfl
def SOk (P:List Int) (x:Flow.Src):Prop:=x.pl∈P∧0≤x.rd∧x.rd≤maxTime∧0≤x.gr∧x.gr≤1000000000
instance {P:List Int} {x:Flow.Src}:Decidable (SOk P x):=by unfold SOk;infer_instance
def zAn (P:List Int) (L:List Leg) (s:List Flow.Src) (to dl:Int):Int:=
 if validN P L≠0 then validN P L else if ¬(to∈P∧0≤dl∧dl≤maxTime) then 2 else if 50<s.length then 5 else if ∀x∈s,SOk P x then 0 else 340
theorem allowed_ok [OB] {mp:Bool} {lim:Nat} {pp pl ps:Option Addr} {P:List Int} {L:List Leg} {s:List Flow.Src} {cp cl cs:Nat} {to dl:Int} {H:zH} {Q:Value→zH→Prop} (hn:NetIn H pp pl P L) (hs:Sl H encS 3 ps s) (hsl:s.length<2 ^ 63) :
  CallR E mp lim 26 [.agg (netV pp P.length cp pl L.length cl).toArray,.slice ps s.length cs,.int .i64 to,.int .i64 dl] H Q=Q (.int .i64 (zAn P L s to dl)) H:=by
 refine pc (by decide) e26 rfl rfl ?_
 rw [b26,c26]
 have mt:maxTime=1051898399:=rfl
 have hv:=fun X (mp:Bool) (lim:Nat) (Q:Value→zH→Prop)=>valid_ok (mp:=mp) (lim:=lim) (cp:=cp) (cl:=cl) (Q:=Q) (hn.app X)
 have hh:=fun X (mp:Bool) (lim:Nat) (a:Int) (Q:Value→zH→Prop)=>has_ok (mp:=mp) (lim:=lim) (c:=cp) (a:=a) (Q:=Q) (hn.sp.app X) (by have:=hn.np;omega)
 by_cases h0:validN P L=0
 case neg=>
  simp only [n26,r26,zNl,zN0,zN1,hv,h0,zSa,SB,Nat.reduceLT,zCa,aOp,Nat.reduceEqDiff,zB,aUn,reduceCtorEq,zFr,place,zTu,Nat.reduceAdd,Nat.reduceLeDiff,zRe,Int.reduceEq,Int.reduceLT,Int.reduceLE]
  rw [zAn,if_pos h0]
 have key:zAn P L s to dl=if ¬(to∈P∧0≤dl∧dl≤maxTime) then 2 else if 50<s.length then 5 else if ∀x∈s,SOk P x then 0 else 340:=if_neg fun h=>h h0
 rw [key]
 by_cases hto:to∈P
 case neg=>
  simp only [n26,r26,zNl,zN0,zN1,hv,h0,zSa,hh,eq_false hto,SB,Nat.reduceLT,zCa,aOp,Nat.reduceEqDiff,zB,aUn,reduceCtorEq,zFr,place,zTu,Nat.reduceAdd,Nat.reduceLeDiff,zRe,Int.reduceEq,Int.reduceLT,Int.reduceLE]
 by_cases hd0:dl<0
 ·simp only [n26,r26,zNl,zN0,zN1,hv,h0,zSa,hh,eq_true hto,eq_true hd0,SB,Nat.reduceLT,zCa,aOp,Nat.reduceEqDiff,zB,aUn,reduceCtorEq,zFr,place,zTu,Nat.reduceAdd,Nat.reduceLeDiff,zRe,Int.reduceEq,Int.reduceLT,Int.reduceLE]
  rw [if_pos fun h=>by omega]
 by_cases hd1:1051898399<dl
 ·simp only [n26,r26,zNl,zN0,zN1,hv,h0,zSa,hh,eq_true hto,eq_false hd0,eq_true hd1,SB,Nat.reduceLT,zCa,aOp,Nat.reduceEqDiff,zB,aUn,reduceCtorEq,zFr,place,zTu,Nat.reduceAdd,Nat.reduceLeDiff,zRe,Int.reduceEq,Int.reduceLT,Int.reduceLE]
  rw [if_pos fun h=>by omega]
 rw [if_neg fun h=>h ⟨hto,by omega,by omega⟩]
 by_cases h50:50<(s.length:Int)
 ·simp only [n26,r26,zNl,zN0,zN1,hv,h0,zSa,hh,eq_true hto,eq_false hd0,eq_false hd1,h50,SB,Nat.reduceLT,zCa,aOp,Nat.reduceEqDiff,zB,aUn,reduceCtorEq,zFr,place,zTu,Nat.reduceAdd,Nat.reduceLeDiff,zRe,Int.reduceEq,Int.reduceLT,Int.reduceLE]
  rw [if_pos (by omega)]
 rw [if_neg (by omega)]
 simp only [n26,r26,zNl,zN0,zN1,hv,h0,zSa,hh,eq_true hto,eq_false hd0,eq_false hd1,h50,SB,Nat.reduceLT,zCa,aOp,Nat.reduceEqDiff,zB,aUn,reduceCtorEq,zFr,place,zTu,Nat.reduceAdd,Nat.reduceLeDiff,zRe,Int.reduceEq,Int.reduceLT,Int.reduceLE]
 refine zRr (fun i=>s.length-i) (fun i fr G=>i≤s.length∧fr 4=.pointer (some ⟨H.length,0,none⟩)∧fr 33=.slice ps s.length cs∧fr 34=.int .i64 (s.length:Int)∧fr 35=.int .i64 (i:Int)∧H.length<G.length∧Ext H G∧zG G H.length=.cells false (netV pp P.length cp pl L.length cl)∧∀j,j<i→SOk P (gt s j)) 0
  ⟨Nat.zero_le _,(by rfl),(by rfl),(by rfl),by rfl,by simp,Ext.refl.app,zHn,fun j hj=>by omega⟩ ?_
 intro i fr G ⟨hi,f4,f33,f34,f35,hlG,hE,hB,hall⟩ hN
 rw [zRc l26_1.eq_1]
 refine zRp ?_
 by_cases hlt:i<s.length
 case neg=>
  obtain rfl:i=s.length:=by omega
  simp only [n26,r26,f4,f33,f34,f35,hlt,SB,Nat.reduceLT,zCa,aOp,Nat.reduceEqDiff,zB,aUn,reduceCtorEq,zFr,place,zTu,Nat.reduceAdd,Nat.reduceLeDiff,zRe,Int.reduceEq,Int.reduceLT,Int.reduceLE]
  rw [if_pos]
  intro x hx
  obtain ⟨j,hj,rfl⟩:=List.mem_iff_getElem.1 hx
  rw [←zGl hj];exact hall j hj
 have sG:=hE.sl hs
 have lS:=fun X=>(sG.app X).loadCells zEl hlt
 have xS:=ix_N sG hlt rfl
 have bX:=fun X=>(Ext.refl.app (X:=X)).cells hB
 have hh2:=fun X (mp:Bool) (lim:Nat) (a:Int) (Q:Value→zH→Prop)=>has_ok (mp:=mp) (lim:=lim) (c:=cp) (a:=a) (Q:=Q) (((hE.sl hn.sp)).app X) (by have:=hn.np;omega)
 have w1:IntKind.i64.wrap ((i:Int)+1)=((i+1:Nat):Int):=zWn (by omega)
 have hsi:gt s i∈s:=gt_mem hlt
 have bad:¬SOk P (gt s i)→¬∀x∈s,SOk P x:=fun h hh=>h (hh _ hsi)
 have hsok:SOk P (gt s i)↔(gt s i).pl∈P∧0≤(gt s i).rd∧(gt s i).rd≤maxTime∧0≤(gt s i).gr∧(gt s i).gr≤1000000000:=Iff.rfl
 have hlG':H.length≤G.length:=by omega
 by_cases g1:(gt s i).pl∈P
 case neg=>
  simp only [n26,r26,f4,f33,f34,f35,hlt,lS,xS,bX,hh2,zNl,zN0,zN1,zEl,encS_0,encS_1,encS_2,zSa,hlG',zTa,eq_false g1,SB,Nat.reduceLT,zCa,aOp,Nat.reduceEqDiff,zB,aUn,reduceCtorEq,zFr,place,zTu,Nat.reduceAdd,Nat.reduceLeDiff,zRe,Int.reduceEq,Int.reduceLT,Int.reduceLE]
  rw [if_neg (bad fun h=>g1 h.1)]
 by_cases g2:(gt s i).rd<0
 ·simp only [n26,r26,f4,f33,f34,f35,hlt,lS,xS,bX,hh2,zNl,zN0,zN1,zEl,encS_0,encS_1,encS_2,zSa,hlG',zTa,eq_true g1,eq_true g2,SB,Nat.reduceLT,zCa,aOp,Nat.reduceEqDiff,zB,aUn,reduceCtorEq,zFr,place,zTu,Nat.reduceAdd,Nat.reduceLeDiff,zRe,Int.reduceEq,Int.reduceLT,Int.reduceLE]
  rw [if_neg (bad fun h=>by have:=hsok.1 h;omega)]
 by_cases g3:1051898399<(gt s i).rd
 ·simp only [n26,r26,f4,f33,f34,f35,hlt,lS,xS,bX,hh2,zNl,zN0,zN1,zEl,encS_0,encS_1,encS_2,zSa,hlG',zTa,eq_true g1,eq_false g2,eq_true g3,SB,Nat.reduceLT,zCa,aOp,Nat.reduceEqDiff,zB,aUn,reduceCtorEq,zFr,place,zTu,Nat.reduceAdd,Nat.reduceLeDiff,zRe,Int.reduceEq,Int.reduceLT,Int.reduceLE]
  rw [if_neg (bad fun h=>by have:=hsok.1 h;omega)]
 by_cases g4:(gt s i).gr<0
 ·simp only [n26,r26,f4,f33,f34,f35,hlt,lS,xS,bX,hh2,zNl,zN0,zN1,zEl,encS_0,encS_1,encS_2,zSa,hlG',zTa,eq_true g1,eq_false g2,eq_false g3,eq_true g4,SB,Nat.reduceLT,zCa,aOp,Nat.reduceEqDiff,zB,aUn,reduceCtorEq,zFr,place,zTu,Nat.reduceAdd,Nat.reduceLeDiff,zRe,Int.reduceEq,Int.reduceLT,Int.reduceLE]
  rw [if_neg (bad fun h=>by have:=hsok.1 h;omega)]
 by_cases g5:1000000000<(gt s i).gr
 ·simp only [n26,r26,f4,f33,f34,f35,hlt,lS,xS,bX,hh2,zNl,zN0,zN1,zEl,encS_0,encS_1,encS_2,zSa,hlG',zTa,eq_true g1,eq_false g2,eq_false g3,eq_false g4,eq_true g5,SB,Nat.reduceLT,zCa,aOp,Nat.reduceEqDiff,zB,aUn,reduceCtorEq,zFr,place,zTu,Nat.reduceAdd,Nat.reduceLeDiff,zRe,Int.reduceEq,Int.reduceLT,Int.reduceLE]
  rw [if_neg (bad fun h=>by have:=hsok.1 h;omega)]
 simp only [n26,r26,f4,f33,f34,f35,hlt,lS,xS,bX,hh2,zNl,zN0,zN1,zEl,encS_0,encS_1,encS_2,zSa,hlG',zTa,eq_true g1,eq_false g2,eq_false g3,eq_false g4,eq_false g5,w1,SB,Nat.reduceLT,zCa,aOp,Nat.reduceEqDiff,zB,aUn,reduceCtorEq,zFr,place,zTu,Nat.reduceAdd,Nat.reduceLeDiff,zRe,Int.reduceEq,Int.reduceLT,Int.reduceLE]
 exact hN (i+1) _ _ ⟨by omega,(by exact f4),(by exact f33),(by exact f34),(by rfl),by simp;omega,hE.app,(Ext.refl.app).cells hB,fun j hj=>by
  rcases Nat.lt_or_ge j i with hji | hji
  ·exact hall j hji
  ·obtain rfl:j=i:=by omega
   exact hsok.2 ⟨g1,by omega,by omega,by omega,by omega⟩⟩ (by omega)
theorem node_ok [OB] {mp:Bool} {lim A M Bt Bg:Nat} {G:zH} {to:Int} {v0:Value} {vs:List Value} {es:List ((Int×Int)×Int)} {p:Int×Int} {Q:Value→zH→Prop} (hT:zG G Bt=.cells false [.int .i64 to]) (hB:zG G Bg=.cells false [.pointer (some ⟨A,0,none⟩)]) (hA:zG G A=.cells false (v0::.map (some M)::vs)) (hM:zG G M=.map (encM kM vI es)) :
  CallR E mp lim 52 [.agg #[.int .i64 p.1,.int .i64 p.2],.pointer (some ⟨Bt,0,none⟩),.pointer (some ⟨Bg,0,none⟩)] G Q=Q (.int .i64 (if p.1=to then 1 else (getK p es).getD 0)) G:=by
 refine pc (by decide) e52 rfl rfl ?_
 rw [b52,c52]
 have hTX:=fun X=>(Ext.refl.app (X:=X)).cells hT
 have hBX:=fun X=>(Ext.refl.app (X:=X)).cells hB
 have hAX:=fun X=>(Ext.refl.app (X:=X)).cells hA
 have hMl:M<G.length:=by
  rcases Nat.lt_or_ge M G.length with h1 | h1
  ·exact h1
  ·have:=hM;unfold zG at this;rw [List.getD_eq_getElem?_getD,List.getElem?_eq_none h1] at this;cases this
 have hMX:∀X,zG (G++X) M=.map (encM kM vI es):=fun X=>by rw [zHo hMl];exact hM
 have hfk:findKey (.agg #[.int .i64 p.1,.int .i64 p.2]) (encM kM vI es) 0=some ((fk p es 0).map fun x=>(x.1,vI x.2)):=findKey_enc (vv:=vI) kM_eq p es 0
 have hko:keyOk (.ints [.i64,.i64]) (.agg #[.int .i64 p.1,.int .i64 p.2])=true:=kM_ok (k:=p)
 have hg:=fk_get p es 0
 by_cases h:p.1=to
 ·simp only [n52,r52,hTX,eq_true h,SB,Nat.reduceLT,zCa,aOp,Nat.reduceEqDiff,zB,aUn,reduceCtorEq,zFr,place,zTu,Nat.reduceAdd,Nat.reduceLeDiff,zRe,Int.reduceEq,Int.reduceLT,Int.reduceLE]
 cases hf:fk p es 0 with
 | none=>
   rw [hf] at hfk hg
   simp only [Option.map_none] at hfk hg
   rw [←hg]
   simp only [n52,r52,hTX,hBX,hAX,hMX,hfk,hko,eq_false h,Option.getD_none,SB,Nat.reduceLT,zCa,aOp,Nat.reduceEqDiff,zB,aUn,reduceCtorEq,zFr,place,zTu,Nat.reduceAdd,Nat.reduceLeDiff,zRe,Int.reduceEq,Int.reduceLT,Int.reduceLE]
 | some x=>
   obtain ⟨j,v⟩:=x
   rw [hf] at hfk hg
   simp only [Option.map_some,vI] at hfk hg
   rw [←hg]
   simp only [n52,r52,hTX,hBX,hAX,hMX,hfk,hko,eq_false h,Option.getD_some,SB,Nat.reduceLT,zCa,aOp,Nat.reduceEqDiff,zB,aUn,reduceCtorEq,zFr,place,zTu,Nat.reduceAdd,Nat.reduceLeDiff,zRe,Int.reduceEq,Int.reduceLT,Int.reduceLE]
theorem rank_ok [OB] {lim A Bo:Nat} {X:List Nat} {G:zH} {vm w4 w5 vw vmost:Value} {pp pa:Option Addr} {cp ca co:Nat} {ols:List Ref} {out:List (List Nat)} {l:List Pr} {SL:List (Int×Int)} {Q:Value→zH→Prop}
  (h:JS A Bo X G (.slice pp SL.length cp) vm w4 w5 vw vmost pa ca co ols out l) (hla:lim≤A) (hS:Own (A+1) G enc2 2 pp cp SL) (hn:out.length=SL.length+2) (hl:SL.length<60000) (hSL:∀x∈SL,-10080≤x.2∧x.2≤maxTime)
  (hQ:∀(G':zH) (Lv:List Int),JS A Bo X G' (.slice pp SL.length cp) vm (.slice (some ⟨G.length+1,0,none⟩) out.length out.length) (.slice (some ⟨G.length,0,none⟩) out.length out.length) vw vmost pa ca co ols out l→zG G' G.length=.cells false ((List.replicate out.length 0).flatMap encN)→zG G' (G.length+1)=.cells false (Lv.flatMap encI)→Lv.length=out.length→(∀x∈Lv,-20000≤x∧x≤1051898401)→(∀b,b<G.length→b≠A→zG G' b=zG G b)→G.length+2≤G'.length→Q (.tuple #[]) G') :
  CallR E false lim 56 [.pointer (some ⟨A,0,none⟩)] G Q:=by
 refine runs' (by decide) e56 rfl ?_
 rw [b56,c56]
 have hAl:=zHa h.hdr
 have hBl:=zHa h.os.ou
 have hab:=h.ab
 have mt:maxTime=1051898399:=rfl
 have bAX:=fun X=>(Ext.refl.app (X:=X)).cells h.hdr
 have hmk:=eq_true (show 0≤(out.length:Int)∧(out.length:Int)*8≤2 ^ 45∧(out.length:Int)<2 ^ 62 by omega)
 obtain ⟨G1,e1,k1,m1⟩:=mut_set hAl (.cells false [.slice pp SL.length cp,vm,.slice pa (2*l.length) ca,.slice (some ⟨Bo,0,none⟩) out.length co,w4,.slice (some ⟨G.length,0,none⟩) out.length out.length,vw,vmost])
 have k1X:=fun X=>(Ext.refl.app (X:=X)).cells k1
 obtain ⟨G2,e2,k2,m2⟩:=mut_set (zHa k1) (.cells false [.slice pp SL.length cp,vm,.slice pa (2*l.length) ca,.slice (some ⟨Bo,0,none⟩) out.length co,.slice (some ⟨G.length+1,0,none⟩) out.length out.length,.slice (some ⟨G.length,0,none⟩) out.length out.length,vw,vmost])
 have k2X:=fun X=>(Ext.refl.app (X:=X)).cells k2
 have el1:=m1.len
 have el2:=m2.len
 simp only [n56,r56,bAX,hmk,make1,hla,e1,k1X,e2,k2X,el1,SB,Nat.reduceLT,zCa,aOp,Nat.reduceEqDiff,zB,aUn,reduceCtorEq,zFr,place,zTu,Nat.reduceAdd,Nat.reduceLeDiff,zRe,Int.reduceEq,Int.reduceLT,Int.reduceLE]
 have hrepN:∀n,List.replicate n (Value.int IntKind.i64 0)=(List.replicate n (0:Nat)).flatMap encN:=fun n=>by
  induction n with
  | zero=>rfl
  | succ n ih=>rw [List.replicate_succ,List.replicate_succ,List.flatMap_cons,←ih];rfl
 have hrepI:∀n,List.replicate n (Value.int IntKind.i64 0)=(List.replicate n (0:Int)).flatMap encI:=fun n=>by
  induction n with
  | zero=>rfl
  | succ n ih=>rw [List.replicate_succ,List.replicate_succ,List.flatMap_cons,←ih];rfl
 obtain ⟨G3,hG3⟩:∃G3,G3=G2++[Blk.cells false (List.replicate out.length (Value.int IntKind.i64 0)),Blk.cells false (List.replicate out.length (Value.int IntKind.i64 0))]:=⟨_,rfl⟩
 rw [←hG3]
 have elG:G2.length=G.length:=by omega
 have hA3:zG G3 A=.cells false [.slice pp SL.length cp,vm,.slice pa (2*l.length) ca,.slice (some ⟨Bo,0,none⟩) out.length co,.slice (some ⟨G.length+1,0,none⟩) out.length out.length,.slice (some ⟨G.length,0,none⟩) out.length out.length,vw,vmost]:=by rw [hG3];exact (Ext.refl.app).cells k2
 have hN3:zG G3 G.length=.cells false ((List.replicate out.length 0).flatMap encN):=by rw [hG3,←hrepN,←elG,zHn];rfl
 have hL3:zG G3 (G.length+1)=.cells false ((List.replicate out.length 0).flatMap encI):=by rw [hG3,←hrepI,←elG,zHw];rfl
 have hk3:∀b,b<G.length→b≠A→zG G3 b=zG G b:=fun b hb hbA=>by rw [hG3,zHo (by omega),m2.other b hbA,m1.other b hbA]
 have hl3:G.length+2≤G3.length:=by rw [hG3];simp;omega
 clear hG3
 refine zRr (fun s:Nat×List Int=>SL.length-s.1) (fun s fr G'=>s.1≤SL.length∧fr 0=.pointer (some ⟨A,0,none⟩)∧fr 25=.slice pp SL.length cp∧fr 26=.int .i64 (SL.length:Int)∧fr 27=.int .i64 (s.1:Int)∧zG G' A=.cells false [.slice pp SL.length cp,vm,.slice pa (2*l.length) ca,.slice (some ⟨Bo,0,none⟩) out.length co,.slice (some ⟨G.length+1,0,none⟩) out.length out.length,.slice (some ⟨G.length,0,none⟩) out.length out.length,vw,vmost]∧
   zG G' G.length=.cells false ((List.replicate out.length 0).flatMap encN)∧zG G' (G.length+1)=.cells false (s.2.flatMap encI)∧s.2.length=out.length∧(∀x∈s.2,-20000≤x∧x≤1051898401)∧(∀b,b<G.length→b≠A→zG G' b=zG G b)∧G.length+2≤G'.length) (0,List.replicate out.length 0)
  ⟨Nat.zero_le _,(by rfl),(by rfl),(by rfl),by rfl,hA3,hN3,hL3,by simp,fun x hx=>by rw [List.eq_of_mem_replicate hx];omega,hk3,hl3⟩ ?_
 rintro ⟨i,Lv⟩ fr G' ⟨hi,f0,f25,f26,f27,hA',hN',hL',hLl,hLb,hk',hl'⟩ hN
 simp only at hi f27 hL' hLl hLb
 rw [zRc l56_1.eq_1]
 refine zRp ?_
 have bA'X:=fun X=>(Ext.refl.app (X:=X)).cells hA'
 by_cases hlt:i<SL.length
 case neg=>
  obtain rfl:i=SL.length:=by omega
  obtain ⟨G5,e5,k5,m5⟩:=store_mut (lim:=lim) (p:=some ⟨G.length+1,0,none⟩) (i:=1) zIl rfl hL' (by omega) (by omega) (1051898401:Int)
  simp only [encI] at e5
  have sL:=Sl.row (ro:=false) zIl hL'
  have xL:=ix_N (i:=1) sL (show 1<out.length by omega) hLl
  simp only [Int.cast_ofNat_Int] at xL
  simp only [n56,r56,f0,f25,f26,f27,hlt,bA'X,xL,e5,SB,Nat.reduceLT,zCa,aOp,Nat.reduceEqDiff,zB,aUn,reduceCtorEq,zFr,place,zTu,Nat.reduceAdd,Nat.reduceLeDiff,zRe,Int.reduceEq,Int.reduceLT,Int.reduceLE]
  have k5':=fun b (hb:b≠G.length+1)=>m5.other b hb
  have el5:=m5.len
  have keep5:∀b,b<G.length→b≠A→zG (G5++[]) b=zG G b:=fun b hb hbA=>by rw [List.append_nil,k5' b (by omega)];exact hk' b hb hbA
  refine hQ _ (Lv.set 1 1051898401) ⟨?_,own_simG h.ar fun a ha=>?_,h.os.sim ?_ (fun u a hu ha=>?_) (by simp;omega),hab,h.ax⟩ ?_ ?_ (by simpa using hLl) ?_ keep5 (by simp;omega)
  ·rw [List.append_nil,k5' A (by omega)];exact hA'
  ·have:=h.ar.block ha
   exact keep5 _ this.2 (by omega)
  ·exact keep5 Bo hBl (by omega)
  ·have:=(h.os.us u hu).1.block ha
   exact keep5 _ this.2 (by omega)
  ·rw [List.append_nil,k5' G.length (by omega)];exact hN'
  ·rw [List.append_nil];exact k5
  ·intro x hx
   rcases List.mem_or_eq_of_mem_set hx with hx | hx
   ·exact hLb x hx
   ·omega
 have sS:Sl G' enc2 2 pp SL:=(own_simG hS fun a ha=>hk' a.block (hS.block ha).2 (by have:=(hS.block ha).1;omega)).sl z2l
 have lS:∀X,AM.loadCells (G'++X) (elt pp 2 i) 2=some [.int .i64 (gt SL i).1,.int .i64 (gt SL i).2]:=fun X=>by rw [(sS.app X).loadCells z2l hlt];rfl
 have xS:=ix_N sS hlt rfl
 have hb:=hSL _ (gt_mem hlt)
 have w1:IntKind.i64.wrap ((i:Int)+1)=((i+1:Nat):Int):=zWn (by omega)
 have w2:IntKind.i64.wrap ((i:Int)+2)=((i+2:Nat):Int):=by rw [zWi (by omega) (by omega)];omega
 have w3:IntKind.i64.wrap ((gt SL i).2+1)=(gt SL i).2+1:=zWi (by omega) (by omega)
 have sL:=Sl.row (ro:=false) zIl hL'
 have xL:=ix_N (i:=i+2) sL (show i+2<out.length by omega) hLl
 obtain ⟨G5,e5,k5,m5⟩:=store_mut (lim:=lim) (p:=some ⟨G.length+1,0,none⟩) (i:=i+2) zIl rfl hL' (by omega) (by omega) ((gt SL i).2+1)
 simp only [encI] at e5
 have el5:=m5.len
 simp only [n56,r56,f0,f25,f26,f27,hlt,bA'X,lS,xS,xL,e5,w1,w2,w3,show lim≤G'.length by omega,SB,Nat.reduceLT,zCa,aOp,Nat.reduceEqDiff,zB,aUn,reduceCtorEq,zFr,place,zTu,Nat.reduceAdd,Nat.reduceLeDiff,zRe,Int.reduceEq,Int.reduceLT,Int.reduceLE]
 exact hN (i+1,Lv.set (i+2) ((gt SL i).2+1)) _ _ ⟨by show i+1≤_;omega,(by exact f0),(by exact f25),(by exact f26),(by rfl),(Ext.refl.app).cells ((m5.other A (by omega)).trans hA'),(Ext.refl.app).cells ((m5.other _ (by omega)).trans hN'),(Ext.refl.app).cells k5,by simpa using hLl,fun x hx=>by
  rcases List.mem_or_eq_of_mem_set hx with hx | hx
  ·exact hLb x hx
  ·omega,fun b hb hbA=>by rw [zHo (by omega),m5.other b (by omega)];exact hk' b hb hbA,by simp;omega⟩ (by show SL.length-(i+1)<SL.length-i;omega)
def addS (to dl:Int) (PL:List (Int×Int)) (s:List Flow.Src):List (Int×Int):=s.foldl (fun PL x=>addP PL (x.pl,x.rd) (decide (x.pl≠to)&&decide (x.rd≤dl))) PL
theorem addS_snoc {to dl:Int} {PL:List (Int×Int)} {s:List Flow.Src} {x:Flow.Src}:addS to dl PL (s++[x])=addP (addS to dl PL s) (x.pl,x.rd) (decide (x.pl≠to)&&decide (x.rd≤dl)):=by unfold addS;rw [List.foldl_append];rfl
theorem addP_len {PL:List (Int×Int)} {p:Int×Int} {w:Bool}:(addP PL p w).length≤PL.length+1:=by unfold addP;split<;>simp
theorem addS_len {to dl:Int}:∀{s:List Flow.Src} {PL:List (Int×Int)},(addS to dl PL s).length≤PL.length+s.length
 | [],PL=>by simp [addS]
 | x::s,PL=>by
   have ih:=addS_len (to:=to) (dl:=dl) (s:=s) (PL:=addP PL (x.pl,x.rd) (decide (x.pl≠to)&&decide (x.rd≤dl)))
   have:=addP_len (PL:=PL) (p:=(x.pl,x.rd)) (w:=decide (x.pl≠to)&&decide (x.rd≤dl))
   show (addS to dl (addP PL (x.pl,x.rd) (decide (x.pl≠to)&&decide (x.rd≤dl))) s).length≤_
   simp only [List.length_cons];omega
theorem sl_keep {α:Type} {enc:α→List Value} {e:Nat} {H G:zH} {q:Option Addr} {T:List α} (h:Sl H enc e q T) (hk:∀a,q=some a→T≠[]→zG G a.block=zG H a.block):Sl G enc e q T:=by
 cases hp:q with
 | none=>rw [hp] at h;exact h
 | some a=>
   have e1:=hk a hp
   rw [hp] at h
   refine ⟨h.1,fun hne=>?_⟩
   obtain ⟨ro,c,k1,k2⟩:=h.2 hne
   exact ⟨ro,c,by rw [e1 hne];exact k1,k2⟩
structure BF (fr:Nat→Value) (ps:Option Addr) (n cs:Nat) (dl:Int) (Bn Bt Bg Bf:Nat):Prop where
 f1:fr 1=.slice ps n cs
 f3:fr 3=.int .i64 dl
 f4:fr 4=.pointer (some ⟨Bn,0,none⟩)
 f6:fr 6=.pointer (some ⟨Bt,0,none⟩)
 f9:fr 9=.pointer (some ⟨Bg,0,none⟩)
 f10:fr 10=.pointer (some ⟨Bf,0,none⟩)
theorem adds_ok [OB] {lim A M Bn Bt Bg Bf:Nat} {X:List Nat} {G:zH} {fr:Nat→Value} {ps pp:Option Addr} {s:List Flow.Src} {cs cp:Nat} {to dl:Int} {vs:List Value} {PL:List (Int×Int)} {K:List zAi} {Q:Value→zH→Prop}
  (hf:BF fr ps s.length cs dl Bn Bt Bg Bf) (h:PS A M X G pp cp vs PL) (hlm:lim≤M) (hv:vs.length=6) (hl:PL.length+s.length<2 ^ 29)
  (hG:zG G Bg=.cells false [.pointer (some ⟨A,0,none⟩)]) (hT:zG G Bt=.cells false [.int .i64 to]) (hX:Bg∈X∧Bt∈X∧∀a,ps=some a→s≠[]→a.block∈X) (hs:Sl G encS 3 ps s)
  (f25:fr 25=.slice ps s.length cs) (f26:fr 26=.int .i64 (s.length:Int)) (f27:fr 27=.int .i64 0)
  (hR:∀fr' G' pp' cp',BF fr' ps s.length cs dl Bn Bt Bg Bf→PS A M X G' pp' cp' vs (addS to dl PL s)→(∀b∈X,zG G' b=zG G b)→G.length≤G'.length→Ret E a36 lim K fr' G' Q) :
  Ret E a36 lim (.code (.loop l36_3)::.inBlock 0::K) fr G Q:=by
 refine zRr (fun z:Nat×Option Addr×Nat=>s.length-z.1) (fun z fr G'=>z.1≤s.length∧BF fr ps s.length cs dl Bn Bt Bg Bf∧fr 25=.slice ps s.length cs∧fr 26=.int .i64 (s.length:Int)∧fr 27=.int .i64 (z.1:Int)∧PS A M X G' z.2.1 z.2.2 vs (addS to dl PL (s.take z.1))∧(∀b∈X,zG G' b=zG G b)∧G.length≤G'.length) (0,pp,cp)
  ⟨Nat.zero_le _,hf,f25,f26,f27,h,fun b _=>rfl,Nat.le_refl _⟩ ?_
 rintro ⟨i,pp1,cp1⟩ fr G' ⟨hi,hf,f25,f26,f27,hP,hk,hlG⟩ hN
 simp only at hi f27 hP
 obtain ⟨f1,f3,f4,f6,f9,f10⟩:=hf
 rw [zRc l36_3.eq_1]
 refine zRp ?_
 by_cases hlt:i<s.length
 case neg=>
  obtain rfl:i=s.length:=by omega
  rw [List.take_length] at hP
  simp only [n36,r36,f25,f26,f27,hlt,SB,Nat.reduceLT,zCa,aOp,Nat.reduceEqDiff,zB,aUn,reduceCtorEq,zFr,place,zTu,Nat.reduceAdd,Nat.reduceLeDiff,zRe,Int.reduceEq,Int.reduceLT,Int.reduceLE]
  refine hR _ _ pp1 cp1 ⟨(by exact f1),(by exact f3),(by exact f4),(by exact f6),(by exact f9),(by exact f10)⟩ ?_ ?_ (by simp;omega)
  ·rw [List.append_nil];exact hP
  ·rw [List.append_nil];exact hk
 have sG:=sl_keep hs fun a ha hn=>hk _ (hX.2.2 a ha hn)
 have lS:=fun Z=>(sG.app Z).loadCells zEl hlt
 have xS:=ix_N sG hlt rfl
 have bgX:=fun Z=>(Ext.refl.app (X:=Z)).cells ((hk _ hX.1).trans hG)
 have btX:=fun Z=>(Ext.refl.app (X:=Z)).cells ((hk _ hX.2.1).trans hT)
 have w1:IntKind.i64.wrap ((i:Int)+1)=((i+1:Nat):Int):=zWn (by omega)
 have hAl:=zHa hP.hdr
 have hlG':lim≤G'.length:=by have:=hP.ma;omega
 have et:addS to dl PL (s.take (i+1))=addP (addS to dl PL (s.take i)) ((gt s i).pl,(gt s i).rd) (decide ((gt s i).pl≠to)&&decide ((gt s i).rd≤dl)):=by rw [List.take_succ_eq_append_getElem hlt,addS_snoc,zGl hlt]
 have hlen:(addS to dl PL (s.take i)).length<2 ^ 29:=by
  have:=addS_len (to:=to) (dl:=dl) (s:=s.take i) (PL:=PL)
  rw [List.length_take] at this;omega
 have hPX:∀Z,PS A M X (G'++Z) pp1 cp1 vs (addS to dl PL (s.take i)):=fun Z=>⟨(Ext.refl.app).cells hP.hdr,hP.own.app Z,by
  have hMl:M<G'.length:=by have:=hP.ma;omega
  rw [zHo hMl];exact hP.mp,hP.ma,hP.nd,fun b hb=>⟨by have:=(hP.sx b hb).1;simp;omega,(hP.sx b hb).2⟩⟩
 by_cases g1:(gt s i).pl=to
 ·rw [show (decide ((gt s i).pl≠to)&&decide ((gt s i).rd≤dl))=false by simp [g1]] at et
  simp only [n36,r36,f1,f3,f4,f6,f9,f10,f25,f26,f27,hlt,lS,xS,bgX,btX,zEl,encS_0,encS_1,encS_2,zSa,hlG',zTa,eq_true g1,SB,Nat.reduceLT,zCa,aOp,Nat.reduceEqDiff,zB,aUn,reduceCtorEq,zFr,place,zTu,Nat.reduceAdd,Nat.reduceLeDiff,zRe,Int.reduceEq,Int.reduceLT,Int.reduceLE]
  refine add_ok (p:=((gt s i).pl,(gt s i).rd)) (hPX _) hlm hlen hv fun G2 pp2 cp2 hP2 hk2 hl2=>?_
  refine zRp ?_
  simp only [n36,r36,f1,f3,f4,f6,f9,f10,f25,f26,f27,w1,SB,Nat.reduceLT,zCa,aOp,Nat.reduceEqDiff,zB,aUn,reduceCtorEq,zFr,place,zTu,Nat.reduceAdd,Nat.reduceLeDiff,zRe,Int.reduceEq,Int.reduceLT,Int.reduceLE]
  exact hN (i+1,pp2,cp2) _ _ ⟨by show i+1≤_;omega,⟨(by exact f1),(by exact f3),(by exact f4),(by exact f6),(by exact f9),(by exact f10)⟩,(by exact f25),(by exact f26),(by rfl),by rw [et];first | exact hP2 | (rw [List.append_nil];exact hP2),fun b hb=>by first | exact (hk2 b hb).trans ((zHo (hP.sx b hb).1).trans (hk b hb)) | (rw [List.append_nil];exact (hk2 b hb).trans ((zHo (hP.sx b hb).1).trans (hk b hb))),by simp at hl2⊢;omega⟩ (by show s.length-(i+1)<s.length-i;omega)
 by_cases g2:(gt s i).rd≤dl
 ·rw [show (decide ((gt s i).pl≠to)&&decide ((gt s i).rd≤dl))=true by simp [g1,g2]] at et
  simp only [n36,r36,f1,f3,f4,f6,f9,f10,f25,f26,f27,hlt,lS,xS,bgX,btX,zEl,encS_0,encS_1,encS_2,zSa,hlG',zTa,eq_false g1,eq_true g2,SB,Nat.reduceLT,zCa,aOp,Nat.reduceEqDiff,zB,aUn,reduceCtorEq,zFr,place,zTu,Nat.reduceAdd,Nat.reduceLeDiff,zRe,Int.reduceEq,Int.reduceLT,Int.reduceLE]
  refine add_ok (p:=((gt s i).pl,(gt s i).rd)) (hPX _) hlm hlen hv fun G2 pp2 cp2 hP2 hk2 hl2=>?_
  refine zRp ?_
  simp only [n36,r36,f1,f3,f4,f6,f9,f10,f25,f26,f27,w1,SB,Nat.reduceLT,zCa,aOp,Nat.reduceEqDiff,zB,aUn,reduceCtorEq,zFr,place,zTu,Nat.reduceAdd,Nat.reduceLeDiff,zRe,Int.reduceEq,Int.reduceLT,Int.reduceLE]
  exact hN (i+1,pp2,cp2) _ _ ⟨by show i+1≤_;omega,⟨(by exact f1),(by exact f3),(by exact f4),(by exact f6),(by exact f9),(by exact f10)⟩,(by exact f25),(by exact f26),(by rfl),by rw [et];first | exact hP2 | (rw [List.append_nil];exact hP2),fun b hb=>by first | exact (hk2 b hb).trans ((zHo (hP.sx b hb).1).trans (hk b hb)) | (rw [List.append_nil];exact (hk2 b hb).trans ((zHo (hP.sx b hb).1).trans (hk b hb))),by simp at hl2⊢;omega⟩ (by show s.length-(i+1)<s.length-i;omega)
 ·rw [show (decide ((gt s i).pl≠to)&&decide ((gt s i).rd≤dl))=false by simp [g1,g2]] at et
  simp only [n36,r36,f1,f3,f4,f6,f9,f10,f25,f26,f27,hlt,lS,xS,bgX,btX,zEl,encS_0,encS_1,encS_2,zSa,hlG',zTa,eq_false g1,eq_false g2,SB,Nat.reduceLT,zCa,aOp,Nat.reduceEqDiff,zB,aUn,reduceCtorEq,zFr,place,zTu,Nat.reduceAdd,Nat.reduceLeDiff,zRe,Int.reduceEq,Int.reduceLT,Int.reduceLE]
  refine add_ok (p:=((gt s i).pl,(gt s i).rd)) (hPX _) hlm hlen hv fun G2 pp2 cp2 hP2 hk2 hl2=>?_
  refine zRp ?_
  simp only [n36,r36,f1,f3,f4,f6,f9,f10,f25,f26,f27,w1,SB,Nat.reduceLT,zCa,aOp,Nat.reduceEqDiff,zB,aUn,reduceCtorEq,zFr,place,zTu,Nat.reduceAdd,Nat.reduceLeDiff,zRe,Int.reduceEq,Int.reduceLT,Int.reduceLE]
  exact hN (i+1,pp2,cp2) _ _ ⟨by show i+1≤_;omega,⟨(by exact f1),(by exact f3),(by exact f4),(by exact f6),(by exact f9),(by exact f10)⟩,(by exact f25),(by exact f26),(by rfl),by rw [et];first | exact hP2 | (rw [List.append_nil];exact hP2),fun b hb=>by first | exact (hk2 b hb).trans ((zHo (hP.sx b hb).1).trans (hk b hb)) | (rw [List.append_nil];exact (hk2 b hb).trans ((zHo (hP.sx b hb).1).trans (hk b hb))),by simp at hl2⊢;omega⟩ (by show s.length-(i+1)<s.length-i;omega)
theorem PS.sim {A M:Nat} {X X':List Nat} {G G':zH} {pp:Option Addr} {cp:Nat} {vs:List Value} {PL:List (Int×Int)} (h:PS A M X G pp cp vs PL) (hk:∀b,b=A∨b=M∨b∈opB pp→zG G' b=zG G b) (hX:∀b∈X',b<G'.length∧(b∈X∨G.length≤b)):PS A M X' G' pp cp vs PL:=by
 have hAl:=zHa h.hdr
 have hma:=h.ma
 refine ⟨(hk A (.inl rfl)).trans h.hdr,own_simG h.own fun a ha=>hk _ (.inr (.inr (zOm.2 ⟨a,ha,rfl⟩))),(hk M (.inr (.inl rfl))).trans h.mp,hma,h.nd,fun b hb=>?_⟩
 obtain ⟨h1,h2⟩:=hX b hb
 rcases h2 with h2 | h2
 ·exact ⟨h1,(h.sx b h2).2⟩
 ·exact ⟨h1,by omega,by omega,fun hm=>by obtain ⟨a,ha,e⟩:=zOm.1 hm;have:=(h.own.block ha).2;omega⟩
def addC (to:Int) (PL:List (Int×Int)) (C:List (Leg×Int)):List (Int×Int):=C.foldl (fun PL c=>addP (addP PL (c.1.frm,c.2-c.1.cut) true) (c.1.dst,c.2+c.1.mins) (decide (c.1.dst≠to))) PL
theorem addC_snoc {to:Int} {PL:List (Int×Int)} {C:List (Leg×Int)} {c:Leg×Int}:addC to PL (C++[c])=addP (addP (addC to PL C) (c.1.frm,c.2-c.1.cut) true) (c.1.dst,c.2+c.1.mins) (decide (c.1.dst≠to)):=by unfold addC;rw [List.foldl_append];rfl
theorem addC_len {to:Int}:∀{C:List (Leg×Int)} {PL:List (Int×Int)},(addC to PL C).length≤PL.length+2*C.length
 | [],PL=>by simp [addC]
 | c::C,PL=>by
   have ih:=addC_len (to:=to) (C:=C) (PL:=addP (addP PL (c.1.frm,c.2-c.1.cut) true) (c.1.dst,c.2+c.1.mins) (decide (c.1.dst≠to)))
   have h1:=addP_len (PL:=PL) (p:=(c.1.frm,c.2-c.1.cut)) (w:=true)
   have h2:=addP_len (PL:=addP PL (c.1.frm,c.2-c.1.cut) true) (p:=(c.1.dst,c.2+c.1.mins)) (w:=decide (c.1.dst≠to))
   show (addC to (addP (addP PL (c.1.frm,c.2-c.1.cut) true) (c.1.dst,c.2+c.1.mins) (decide (c.1.dst≠to))) C).length≤_
   simp only [List.length_cons];omega
theorem addCs_ok [OB] {lim A M Bn Bt Bg Bf Bd2 Bn2 Bt2 np cpn cl:Nat} {X:List Nat} {G:zH} {fr:Nat→Value} {ps pp pp2 pl:Option Addr} {ns cs cp:Nat} {to dl:Int} {vs:List Value} {PL:List (Int×Int)} {L:List Leg} {K:List zAi} {Q:Value→zH→Prop}
  (hf:BF fr ps ns cs dl Bn Bt Bg Bf) (h:PS A M X G pp cp vs PL) (hlm:lim≤M) (hv:vs.length=6) (hl:PL.length+2*(zCc L to dl).length<2 ^ 28)
  (hG:zG G Bg=.cells false [.pointer (some ⟨A,0,none⟩)]) (hT:zG G Bt=.cells false [.int .i64 to]) (hX:Bg∈X∧Bt∈X)
  (f52:fr 52=.func (.func 44) #[] #[.pointer (some ⟨Bd2,0,none⟩),.pointer (some ⟨Bn2,0,none⟩),.pointer (some ⟨Bt2,0,none⟩)])
  (hBd:zG G Bd2=.cells false [.int .i64 dl]) (hBn:zG G Bn2=.cells false (netV pp2 np cpn pl L.length cl)) (hBt:zG G Bt2=.cells false [.int .i64 to]) (hs:Sl G encL 8 pl L) (hK:Bd2∈X∧Bn2∈X∧Bt2∈X∧∀a,pl=some a→L≠[]→a.block∈X) (hF:∀l∈L,Fine l) (hLl:L.length<2 ^ 40) (hd0:0≤dl) (hd1:dl≤maxTime)
  (hR:∀G' pp' cp',PS A M X G' pp' cp' vs (addC to PL (zCc L to dl))→(∀b∈X,zG G' b=zG G b)→zG G' G.length=.dfr→G.length+2≤G'.length→Ret E a36 lim (K++[.mark G.length]) fr G' Q) :
  Ret E a36 lim (.code (.rangeF (t 52) [53,54] ga36_2 gb36_2)::K) fr G Q:=by
 have hAl:=zHa h.hdr
 have hma:=h.ma
 have hlG:lim≤G.length:=by omega
 have mt:maxTime=1051898399:=rfl
 obtain ⟨f1,f3,f4,f6,f9,f10⟩:=hf
 have hcal:zCa (ev fr (t 52)) [.func (.yield (G.length+1)) #[] #[]] = some (.inl 44,[.func (.yield (G.length+1)) #[] #[],.pointer (some ⟨Bd2,0,none⟩),.pointer (some ⟨Bn2,0,none⟩),.pointer (some ⟨Bt2,0,none⟩)]):=by rw [show ev fr (t 52)=_ from f52];rfl
 rw [Ret_rangeF0 hcal]
 have hsx:=h.sx
 have old0:∀b∈X,zG (G++[Blk.dfr,.loop ⟨0,none,fr,155,[53,54],ga36_2,gb36_2⟩]) b=zG G b:=fun b hb=>zHo (hsx b hb).1
 refine counted_rule (lim:=lim) (Y:=G.length+1) (Bd:=Bd2) (Bn:=Bn2) (Bt:=Bt2) (np:=np) (pp:=pp2) (pl:=pl) (cp:=cpn) (cl:=cl) (L:=L) (to:=to) (dl:=dl)
  (fun rest Xr G'=>∃done pp' cp',done++rest=zCc L to dl∧PS A M (G.length::(G.length+1)::(X++Xr)) G' pp' cp' vs (addC to PL done)∧zG G' G.length=.dfr∧zG G' (G.length+1)=.loop ⟨0,none,fr,155,[53,54],ga36_2,gb36_2⟩∧(∀b∈X,zG G' b=zG G b)∧G.length+2≤G'.length) X ?_ ?_ ((old0 _ hK.1).trans hBd) ((old0 _ hK.2.1).trans hBn) ((old0 _ hK.2.2.1).trans hBt) (hs.app _) hK ?_ hF hLl hd0 hd1 (by simp;omega) ?_ ?_
 ·rintro rest Xr Xr' H H' ⟨done,pp',cp',e1,e2,e3,e4,e5,e6⟩ hC hXr
  have hlen:=hC.len
  have hAl':=zHa e2.hdr
  refine ⟨done,pp',cp',e1,e2.sim (fun b hb=>?_) (fun b hb=>?_),hC.get e3 (by omega) (by simp),hC.get e4 (by omega) (by simp),fun b hb=>?_,by omega⟩
  ·rcases hb with rfl | rfl | hb
   ·exact hC.other _ hAl' (by simp)
   ·exact hC.other _ (by omega) (by simp)
   ·obtain ⟨a,ha,rfl⟩:=zOm.1 hb
    exact hC.other _ (e2.own.block ha).2 (by simp)
  ·simp only [List.mem_cons,List.mem_append] at hb
   rcases hb with rfl | rfl | hb | hb
   ·exact ⟨by omega,.inl (by simp)⟩
   ·exact ⟨by omega,.inl (by simp)⟩
   ·have:=(hsx b hb).1
    exact ⟨by omega,.inl (by simp [hb])⟩
   ·rcases hXr b hb with h1 | ⟨h1,h2⟩
    ·have:=(e2.sx b (by simp [h1])).1
     exact ⟨by omega,.inl (by simp [h1])⟩
    ·exact ⟨h2,.inr h1⟩
  ·have:=(hsx b hb).1
   rw [hC.other b (by omega) (by simp)];exact e5 b hb
 ·rintro x rest Xr G' hlG' hx hKr ⟨done,pp',cp',e1,e2,e3,e4,e5,e6⟩
  have hll:=e2.own
  obtain ⟨hm1,_,d,_,hm4,hm5,hm6⟩:=countC_mem hx
  have hFx:=hF _ hm1
  have hFx':=hFx
  unfold Fine at hFx'
  have hAl':=zHa e2.hdr
  have hpre:done.length<(zCc L to dl).length:=by rw [←e1,List.length_append,List.length_cons];omega
  have hlen0:(addC to PL done).length<2 ^ 28:=by have:=addC_len (to:=to) (C:=done) (PL:=PL);omega
  rw [CallY_run (x:=⟨0,none,fr,155,[53,54],ga36_2,gb36_2⟩) e4 (by omega) rfl (by rfl)]
  rw [show setParams fr [53,54] [.agg (encL x.1).toArray,.agg #[.int .i64 x.2,.int .i64 (x.2+x.1.mins)]] = upd (upd fr 53 (.agg (encL x.1).toArray)) 54 (.agg #[.int .i64 x.2,.int .i64 (x.2+x.1.mins)]) from rfl]
  rw [zRc ga36_2.eq_1]
  refine zRp ?_
  obtain ⟨G1,e7,h7,m7⟩:=mut_set (G:=G') (R:=G.length+1) (by omega) (.loop ⟨1,none,fr,155,[53,54],ga36_2,gb36_2⟩)
  have gY:=fun X=>(Ext.refl.app (X:=X)).get' e4 (by omega)
  have hlG2:lim≤G'.length:=by omega
  simp only [f1,f3,f4,f6,f9,f10,zLl,zL0,zL1,zL2,zL3,zL4,zL5,zL6,zL7,zTa,zSa,hlG2,gY,e7,show lim≤G.length+1 by omega,SB,Nat.reduceLT,zCa,aOp,Nat.reduceEqDiff,zB,aUn,reduceCtorEq,zFr,place,zTu,Nat.reduceAdd,Nat.reduceLeDiff,zRe,Int.reduceEq,Int.reduceLT,Int.reduceLE]
  rw [zRc gb36_2.eq_1]
  have kY:∀b,b≠G.length+1→∀Z,b<G'.length→zG (G1++Z) b=zG G' b:=fun b hb Z hbl=>by rw [zHo (by rw [m7.len];exact hbl)];exact m7.other b hb
  have hy:=e2.sx (G.length+1) (by simp)
  have P1:PS A M (G'.length::(G'.length+1)::(G.length::(G.length+1)::(X++Xr))) (G1++[Blk.cells false (encL x.1),Blk.cells false [.int .i64 x.2,.int .i64 (x.2+x.1.mins)]]) pp' cp' vs (addC to PL done):=by
   refine e2.sim (fun b hb=>?_) (fun b hb=>?_)
   ·rcases hb with rfl | rfl | hb
    ·exact kY _ (fun e=>hy.2.1 e.symm) _ hAl'
    ·exact kY _ (fun e=>hy.2.2.1 e.symm) _ (by omega)
    ·obtain ⟨a,ha,rfl⟩:=zOm.1 hb
     exact kY _ (fun e=>hy.2.2.2 (e▸hb)) _ (e2.own.block ha).2
   ·have hlm7:=m7.len
    rw [List.mem_cons,List.mem_cons] at hb
    rcases hb with rfl | rfl | hb
    ·exact ⟨by simp;omega,.inr (Nat.le_refl _)⟩
    ·exact ⟨by simp;omega,.inr (by omega)⟩
    ·have:=(e2.sx b hb).1
     exact ⟨by simp;omega,.inl hb⟩
  have hgX:∀Z,zG (G1++Z) Bg=.cells false [.pointer (some ⟨A,0,none⟩)]:=fun Z=>by
   have:=(hsx _ hX.1).1
   rw [kY _ (by omega) _ (by omega),e5 _ hX.1];exact hG
  have c5:∀X:zH,zG (G1++X) G'.length=X.getD 0 .dead:=(len_rules m7.len).2.2.1
  have c6:∀(X:zH) (j:Nat),zG (G1++X) (G'.length+j)=X.getD j .dead:=(len_rules m7.len).2.1
  have wc:IntKind.i64.wrap (x.2-x.1.cut)=x.2-x.1.cut:=zWi (by omega) (by omega)
  simp only [f1,f3,f4,f6,f9,f10,zLl,zL0,zL1,zL2,zL3,zL4,zL5,zL6,zL7,zTa,zSa,hgX,c5,c6,wc,SB,Nat.reduceLT,zCa,aOp,Nat.reduceEqDiff,zB,aUn,reduceCtorEq,zFr,place,zTu,Nat.reduceAdd,Nat.reduceLeDiff,zRe,Int.reduceEq,Int.reduceLT,Int.reduceLE]
  refine add_ok (p:=(x.1.frm,x.2-x.1.cut)) P1 hlm (by omega) hv fun G2 pp2 cp2 hP2 hk2 hl2=>?_
  have hg2:∀Z,zG (G2++Z) Bg=.cells false [.pointer (some ⟨A,0,none⟩)]:=fun Z=>(Ext.refl.app).cells ((hk2 _ (by simp [hX.1])).trans (hgX _))
  have ht2:∀Z,zG (G2++Z) Bt=.cells false [.int .i64 to]:=fun Z=>(Ext.refl.app).cells ((hk2 _ (by simp [hX.2])).trans (by
   have:=(hsx _ hX.2).1
   rw [kY _ (by omega) _ (by omega),e5 _ hX.2];exact hT))
  have h13:∀Z,zG (G2++Z) G'.length=.cells false (encL x.1):=fun Z=>(Ext.refl.app).cells ((hk2 _ (by simp)).trans (by rw [c5];rfl))
  have h14:∀Z,zG (G2++Z) (G'.length+1)=.cells false [.int .i64 x.2,.int .i64 (x.2+x.1.mins)]:=fun Z=>(Ext.refl.app).cells ((hk2 _ (by simp)).trans (by rw [c6];rfl))
  have hlen2:=addP_len (PL:=addC to PL done) (p:=(x.1.frm,x.2-x.1.cut)) (w:=true)
  refine zRp ?_
  simp only [f1,f3,f4,f6,f9,f10,zLl,zL0,zL1,zL2,zL3,zL4,zL5,zL6,zL7,zTa,zSa,hg2,ht2,h13,h14,SB,Nat.reduceLT,zCa,aOp,Nat.reduceEqDiff,zB,aUn,reduceCtorEq,zFr,place,zTu,Nat.reduceAdd,Nat.reduceLeDiff,zRe,Int.reduceEq,Int.reduceLT,Int.reduceLE]
  have hP2':PS A M (G'.length::(G'.length+1)::(G.length::(G.length+1)::(X++Xr))) (G2++[]) pp2 cp2 vs (addP (addC to PL done) (x.1.frm,x.2-x.1.cut) true):=by rw [List.append_nil];exact hP2
  refine add_ok (p:=(x.1.dst,x.2+x.1.mins)) hP2' hlm (by omega) hv fun G3 pp3 cp3 hP3 hk3 hl3=>?_
  have kk:∀b∈(G'.length::(G'.length+1)::(G.length::(G.length+1)::(X++Xr))),zG G3 b=zG (G1++[Blk.cells false (encL x.1),Blk.cells false [.int .i64 x.2,.int .i64 (x.2+x.1.mins)]]) b:=fun b hb=>by rw [hk3 b hb,List.append_nil,hk2 b hb]
  have k0:∀b∈(G.length::(G.length+1)::(X++Xr)),b≠G.length+1→zG G3 b=zG G' b:=fun b hb hne=>by
   rw [kk b (List.mem_cons_of_mem _ (List.mem_cons_of_mem _ hb)),kY b hne _ (e2.sx b hb).1]
  have y3:zG G3 (G.length+1)=.loop ⟨1,none,fr,155,[53,54],ga36_2,gb36_2⟩:=by rw [kk _ (by simp),zHo (by rw [m7.len];omega)];exact h7
  simp only [List.append_nil] at hl3
  simp only [List.length_append,List.length_cons,List.length_nil,m7.len] at hl2
  obtain ⟨G4,e8,h8,m8⟩:=mut_set (G:=G3) (R:=G.length+1) (by omega) (.loop ⟨0,none,fr,155,[53,54],ga36_2,gb36_2⟩)
  have y3X:=fun X=>(Ext.refl.app (X:=X)).get' y3 (by omega)
  refine zRp ?_
  simp only [y3X,e8,show lim≤G.length+1 by omega,SB,Nat.reduceLT,zCa,aOp,Nat.reduceEqDiff,zB,aUn,reduceCtorEq,zFr,place,zTu,Nat.reduceAdd,Nat.reduceLeDiff,zRe,Int.reduceEq,Int.reduceLT,Int.reduceLE]
  have hG4:=m8.len
  have hy3:=hP3.sx (G.length+1) (by simp)
  have hall:∀j∈(G.length::(G.length+1)::(X++Xr)),zG (G4++[]) j=zG G' j:=fun j hj=>by
   rw [List.append_nil]
   by_cases hjy:j=G.length+1
   ·subst hjy;rw [h8,e4]
   ·rw [m8.other j hjy];exact k0 j hj hjy
  refine ⟨⟨done++[x],pp3,cp3,by rw [List.append_assoc];exact e1, ?_,(hall _ (by simp)).trans e3,(hall _ (by simp)).trans e4,fun b hb=>(hall b (by simp [hb])).trans (e5 b hb),by omega⟩,by omega,fun j hj=>hall j (by simp [hj])⟩
  rw [addC_snoc]
  refine hP3.sim (fun b hb=>?_) (fun b hb=>?_)
  ·rw [List.append_nil]
   refine m8.other b ?_
   rcases hb with rfl | rfl | hb
   ·exact fun e=>hy3.2.1 e.symm
   ·exact fun e=>hy3.2.2.1 e.symm
   ·exact fun e=>hy3.2.2.2 (e▸hb)
  ·have:=(hP3.sx b (List.mem_cons_of_mem _ (List.mem_cons_of_mem _ hb))).1
   exact ⟨by simp;omega,.inl (List.mem_cons_of_mem _ (List.mem_cons_of_mem _ hb))⟩
 ·intro j hj;have:=(hsx j hj).1;simp;omega
 ·refine ⟨[],pp,cp,rfl,h.sim (fun b hb=>?_) (fun b hb=>?_),zHn,zHw,old0,by simp⟩
  ·rcases hb with rfl | rfl | hb
   ·exact zHo hAl
   ·exact zHo (by omega)
   ·obtain ⟨a,ha,rfl⟩:=zOm.1 hb
    exact zHo (h.own.block ha).2
  ·simp only [List.mem_cons,List.mem_append,or_self] at hb
   rcases hb with rfl | rfl | hb
   ·exact ⟨by simp,.inr (by omega)⟩
   ·exact ⟨by simp,.inr (by omega)⟩
   ·have:=(hsx b hb).1
    exact ⟨by simp;omega,.inl hb⟩
 ·rintro G' ⟨done,pp',cp',e1,e2,e3,e4,e5,e6⟩ hkX hlen
  rw [List.append_nil] at e1
  subst e1
  rw [endK_congr e4,endK_0]
  show Ret E a36 lim (K++[.mark G.length]) fr _ _
  have hC:Mut G' (G'.set (G.length+1) .dead) (G.length+1):=⟨by simp,fun j hj=>zHs hj⟩
  refine hR _ pp' cp' (e2.sim (fun b hb=>hC.other b ?_) fun b hb=>?_) (fun b hb=>?_) ((hC.other _ (by omega)).trans e3) (by rw [hC.len];omega)
  ·have hy:=e2.sx (G.length+1) (by simp)
   rcases hb with rfl | rfl | hb
   ·exact fun e=>hy.2.1 e.symm
   ·exact fun e=>hy.2.2.1 e.symm
   ·exact fun e=>hy.2.2.2 (e▸hb)
  ·have:=(e2.sx b (by simp [hb])).1
   exact ⟨by rw [hC.len];exact this,.inl (by simp [hb])⟩
  ·have:=(hsx b hb).1
   rw [hC.other b (by omega)];exact e5 b hb
theorem nodeV_eq {SL:List (Int×Int)} {es:List ((Int×Int)×Int)} {to:Int} {p:Int×Int} (h:NumOk SL es) (hm:p.1≠to→p∈SL):(if p.1=to then 1 else (getK p es).getD 0)=((zNo SL to p.1 p.2:Nat):Int):=by
 by_cases hp:p.1=to
 ·rw [if_pos hp];unfold zNo;rw [if_pos hp];rfl
 ·obtain ⟨e1,e2,e3⟩:=nodeOf_gt (PL:=SL) (to:=to) (p:=p.1) (t:=p.2) hp (hm hp)
  rw [if_neg hp,e1]
  have:=h _ e2
  rw [e3] at this
  rw [show getK p es=_ from this];rfl
theorem srcP_snoc {PL:List (Int×Int)} {to dl:Int} {x:Flow.Src}:∀{s:List Flow.Src},srcP PL to dl (s++[x])=srcP PL to dl s++if x.rd≤dl then [⟨zNo PL to x.pl x.rd,0,x.gr,0⟩] else []
 | []=>by simp only [List.nil_append,srcP]
 | y::s=>by
   have ih:=srcP_snoc (PL:=PL) (to:=to) (dl:=dl) (x:=x) (s:=s)
   rw [List.cons_append,srcP,srcP,ih]
   split<;>simp
theorem srcP_len {PL:List (Int×Int)} {to dl:Int}:∀{s:List Flow.Src},(srcP PL to dl s).length≤s.length
 | []=>by simp [srcP]
 | y::s=>by
   have ih:=srcP_len (PL:=PL) (to:=to) (dl:=dl) (s:=s)
   rw [srcP]
   split<;>simp<;>omega
theorem nodeOf_lt {SL:List (Int×Int)} {to p t:Int} (h:p≠to→(p,t)∈SL):zNo SL to p t<SL.length+2:=by
 by_cases hp:p=to
 ·unfold zNo;rw [if_pos hp];omega
 ·obtain ⟨e1,e2,e3⟩:=nodeOf_gt (PL:=SL) hp (h hp)
  omega
theorem JS.app {A Bo:Nat} {X:List Nat} {G:zH} {vp vm v4 v5 vw vmost:Value} {pa:Option Addr} {ca co:Nat} {ols:List Ref} {out:List (List Nat)} {l:List Pr} (h:JS A Bo X G vp vm v4 v5 vw vmost pa ca co ols out l) (Z:zH):JS A Bo X (G++Z) vp vm v4 v5 vw vmost pa ca co ols out l:=
 h.keep (fun b _ hb=>zHo hb) (by simp)
theorem joinS_ok [OB] {lim A M Bo Bn Bt Bg Bf:Nat} {X:List Nat} {G:zH} {fr:Nat→Value} {ps pa:Option Addr} {s:List Flow.Src} {cs ca co:Nat} {to dl:Int} {vp v4 v5 vw vmost:Value} {ols:List Ref} {out:List (List Nat)} {l:List Pr} {SL:List (Int×Int)} {es:List ((Int×Int)×Int)} {K:List zAi} {Q:Value→zH→Prop}
  (hf:BF fr ps s.length cs dl Bn Bt Bg Bf) (h:JS A Bo X G vp (.map (some M)) v4 v5 vw vmost pa ca co ols out l) (hla:lim≤A) (hM:zG G M=.map (encM kM vI es)) (hMA:M<A) (hnum:NumOk SL es)
  (hsrc:∀x∈s,x.rd≤dl→x.pl≠to→(x.pl,x.rd)∈SL) (hO:OutOk l out) (hol:out.length=SL.length+2) (hob:∀v,(gt out v).length≤2*l.length) (hll:l.length+s.length<2 ^ 27)
  (hG:zG G Bg=.cells false [.pointer (some ⟨A,0,none⟩)]) (hT:zG G Bt=.cells false [.int .i64 to]) (hFn:zG G Bf=.cells false [.func (.func 52) #[] #[.pointer (some ⟨Bt,0,none⟩),.pointer (some ⟨Bg,0,none⟩)]])
  (hb:(Bg<Bo∧Bg≠A)∧(Bt<Bo∧Bt≠A)∧(Bf<Bo∧Bf≠A)∧∀a,ps=some a→s≠[]→a.block<Bo∧a.block≠A) (hs:Sl G encS 3 ps s)
  (f78:fr 78=.slice ps s.length cs) (f79:fr 79=.int .i64 (s.length:Int)) (f80:fr 80=.int .i64 0)
  (hR:∀fr' G' pa' ca' ols' out',BF fr' ps s.length cs dl Bn Bt Bg Bf→JS A Bo X G' vp (.map (some M)) v4 v5 vw vmost pa' ca' co ols' out' (l++srcP SL to dl s)→OutOk (l++srcP SL to dl s) out'→out'.length=SL.length+2→(∀v,(gt out' v).length≤2*(l++srcP SL to dl s).length)→(∀b,b<Bo→b≠A→zG G' b=zG G b)→G.length≤G'.length→Ret E a36 lim K fr' G' Q) :
  Ret E a36 lim (.code (.loop l36_2)::.inBlock 4::K) fr G Q:=by
 have hab:=h.ab
 refine zRr (fun z:Nat×(Option Addr×Nat)×(List Ref×List (List Nat))=>s.length-z.1) (fun z fr G'=>z.1≤s.length∧BF fr ps s.length cs dl Bn Bt Bg Bf∧fr 78=.slice ps s.length cs∧fr 79=.int .i64 (s.length:Int)∧fr 80=.int .i64 (z.1:Int)∧JS A Bo X G' vp (.map (some M)) v4 v5 vw vmost z.2.1.1 z.2.1.2 co z.2.2.1 z.2.2.2 (l++srcP SL to dl (s.take z.1))∧OutOk (l++srcP SL to dl (s.take z.1)) z.2.2.2∧z.2.2.2.length=SL.length+2∧(∀v,(gt z.2.2.2 v).length≤2*(l++srcP SL to dl (s.take z.1)).length)∧(∀b,b<Bo→b≠A→zG G' b=zG G b)∧G.length≤G'.length) (0,(pa,ca),(ols,out))
  ⟨Nat.zero_le _,hf,f78,f79,f80,by rw [List.take_zero,srcP,List.append_nil];exact h,by rw [List.take_zero,srcP,List.append_nil];exact hO,hol,by rw [List.take_zero,srcP,List.append_nil];exact hob,fun b _ _=>rfl,Nat.le_refl _⟩ ?_
 rintro ⟨i,⟨pa1,ca1⟩,⟨ols1,out1⟩⟩ fr G' ⟨hi,hf,f78,f79,f80,hJ,hO1,hol1,hob1,hk,hlG⟩ hN
 simp only at hi f80 hJ hO1 hol1 hob1
 obtain ⟨f1,f3,f4,f6,f9,f10⟩:=hf
 rw [zRc l36_2.eq_1]
 refine zRp ?_
 by_cases hlt:i<s.length
 case neg=>
  obtain rfl:i=s.length:=by omega
  rw [List.take_length] at hJ hO1 hob1
  simp only [n36,r36,f78,f79,f80,hlt,SB,Nat.reduceLT,zCa,aOp,Nat.reduceEqDiff,zB,aUn,reduceCtorEq,zFr,place,zTu,Nat.reduceAdd,Nat.reduceLeDiff,zRe,Int.reduceEq,Int.reduceLT,Int.reduceLE]
  exact hR _ _ pa1 ca1 ols1 out1 ⟨(by exact f1),(by exact f3),(by exact f4),(by exact f6),(by exact f9),(by exact f10)⟩ (by rw [List.append_nil];exact hJ) hO1 hol1 hob1 (by rw [List.append_nil];exact hk) (by simp;omega)
 have sG:=sl_keep hs fun a ha hn=>hk _ (hb.2.2.2 a ha hn).1 (hb.2.2.2 a ha hn).2
 have lS:=fun Z=>(sG.app Z).loadCells zEl hlt
 have xS:=ix_N sG hlt rfl
 have hBl:=zHa hJ.os.ou
 have bgX:=fun Z=>(Ext.refl.app (X:=Z)).cells ((hk _ hb.1.1 hb.1.2).trans hG)
 have btX:=fun Z=>(Ext.refl.app (X:=Z)).cells ((hk _ hb.2.1.1 hb.2.1.2).trans hT)
 have bfX:=fun Z=>(Ext.refl.app (X:=Z)).cells ((hk _ hb.2.2.1.1 hb.2.2.1.2).trans hFn)
 have baX:=fun Z=>(Ext.refl.app (X:=Z)).cells hJ.hdr
 have bM':zG G' M=.map (encM kM vI es):=(hk M (by omega) (by omega)).trans hM
 have bMX:∀Z,zG (G'++Z) M=.map (encM kM vI es):=fun Z=>by rw [zHo (by omega)];exact bM'
 have w1:IntKind.i64.wrap ((i:Int)+1)=((i+1:Nat):Int):=zWn (by omega)
 have hlG':lim≤G'.length:=by omega
 have hmem:=gt_mem hlt
 have et:srcP SL to dl (s.take (i+1))=srcP SL to dl (s.take i)++if (gt s i).rd≤dl then [⟨zNo SL to (gt s i).pl (gt s i).rd,0,(gt s i).gr,0⟩] else []:=by rw [List.take_succ_eq_append_getElem hlt,srcP_snoc,zGl hlt]
 have hlen:(l++srcP SL to dl (s.take i)).length<2 ^ 27:=by
  have:=srcP_len (PL:=SL) (to:=to) (dl:=dl) (s:=s.take i)
  rw [List.length_take] at this
  rw [List.length_append];omega
 by_cases g2:(gt s i).rd≤dl
 ·rw [if_pos g2] at et
  have hnode:=fun (mp:Bool) (lim:Nat) (Z:zH) (Q:Value→zH→Prop)=>node_ok (mp:=mp) (lim:=lim) (p:=((gt s i).pl,(gt s i).rd)) (Q:=Q) (btX Z) (bgX Z) (baX Z) (bMX Z)
  have hne:=nodeV_eq (to:=to) (p:=((gt s i).pl,(gt s i).rd)) hnum (hsrc _ hmem g2)
  simp only at hne
  simp only [hne] at hnode
  have hnl:=nodeOf_lt (to:=to) (p:=(gt s i).pl) (t:=(gt s i).rd) (hsrc _ hmem g2)
  simp only [n36,r36,f1,f3,f4,f6,f9,f10,f78,f79,f80,hlt,lS,xS,bgX,btX,bfX,baX,bMX,zEl,encS_0,encS_1,encS_2,zSa,hlG',zTa,eq_true g2,hnode,SB,Nat.reduceLT,zCa,aOp,Nat.reduceEqDiff,zB,aUn,reduceCtorEq,zFr,place,zTu,Nat.reduceAdd,Nat.reduceLeDiff,zRe,Int.reduceEq,Int.reduceLT,Int.reduceLE]
  refine join_ok (f:=0) (t:=zNo SL to (gt s i).pl (gt s i).rd) (hJ.app _) hla (by omega) (by omega) (fun v=>by have:=hob1 v;omega) (by omega) fun G2 pa2 ca2 ols2 hJ2 hk2 hl2=>?_
  simp only [n36,r36,f1,f3,f4,f6,f9,f10,f78,f79,f80,w1,SB,Nat.reduceLT,zCa,aOp,Nat.reduceEqDiff,zB,aUn,reduceCtorEq,zFr,place,zTu,Nat.reduceAdd,Nat.reduceLeDiff,zRe,Int.reduceEq,Int.reduceLT,Int.reduceLE]
  have ec:l++srcP SL to dl (s.take (i+1))=(l++srcP SL to dl (s.take i))++[⟨zNo SL to (gt s i).pl (gt s i).rd,0,(gt s i).gr,0⟩]:=by rw [et,List.append_assoc]
  exact hN (i+1,(pa2,ca2),(ols2,joinO out1 0 (zNo SL to (gt s i).pl (gt s i).rd) (2*(l++srcP SL to dl (s.take i)).length))) _ _ ⟨by show i+1≤_;omega,⟨(by exact f1),(by exact f3),(by exact f4),(by exact f6),(by exact f9),(by exact f10)⟩,(by exact f78),(by exact f79),(by rfl),by rw [ec];exact hJ2,by rw [ec];exact hO1.join (by omega) (by omega),by show (joinO _ _ _ _).length=_;rw [joinO_len];exact hol1,fun v=>by
   show (gt (joinO _ _ _ _) v).length≤_
   rw [ec,List.length_append (as:=l++srcP SL to dl (s.take i))]
   have:=joinO_short (out:=out1) (f:=0) (t:=zNo SL to (gt s i).pl (gt s i).rd) (i:=2*(l++srcP SL to dl (s.take i)).length) (v:=v) (by omega) (by omega)
   have:=hob1 v
   simp only [List.length_cons,List.length_nil];omega,fun b hb1 hb2=>by rw [hk2 b (.inl ⟨hb1,hb2⟩),zHo (by omega)];exact hk b hb1 hb2,by simp at hl2;omega⟩ (by show s.length-(i+1)<s.length-i;omega)
 ·rw [if_neg g2,List.append_nil] at et
  simp only [n36,r36,f1,f3,f4,f6,f9,f10,f78,f79,f80,hlt,lS,xS,bgX,btX,bfX,baX,bMX,zEl,encS_0,encS_1,encS_2,zSa,hlG',zTa,eq_false g2,w1,SB,Nat.reduceLT,zCa,aOp,Nat.reduceEqDiff,zB,aUn,reduceCtorEq,zFr,place,zTu,Nat.reduceAdd,Nat.reduceLeDiff,zRe,Int.reduceEq,Int.reduceLT,Int.reduceLE]
  exact hN (i+1,(pa1,ca1),(ols1,out1)) _ _ ⟨by show i+1≤_;omega,⟨(by exact f1),(by exact f3),(by exact f4),(by exact f6),(by exact f9),(by exact f10)⟩,(by exact f78),(by exact f79),(by rfl),by rw [et];exact hJ.app _,by rw [et];exact hO1,hol1,by rw [et];exact hob1,fun b hb1 hb2=>by rw [zHo (by omega)];exact hk b hb1 hb2,by simp;omega⟩ (by show s.length-(i+1)<s.length-i;omega)
def encW (w:(Leg×Int)×Nat):List Value:=encL w.1.1++[.int .i64 w.1.2,.int .i64 (w.1.2+w.1.1.mins),.int .i64 (w.2:Int)]
theorem encW_len (w:(Leg×Int)×Nat):(encW w).length=11:=id rfl
def waysL:Nat→List (Leg×Int)→List ((Leg×Int)×Nat)
 | _,[]=>[]
 | n,c::C=>(c,n)::waysL (n+2) C
theorem waysL_snoc {c:Leg×Int}:∀{C:List (Leg×Int)} {n:Nat},waysL n (C++[c])=waysL n C++[(c,n+2*C.length)]
 | [],n=>by simp [waysL]
 | d::C,n=>by
   rw [List.cons_append,waysL,waysL_snoc,waysL,List.cons_append,List.length_cons]
   congr 4;omega
theorem waysL_len:∀{C:List (Leg×Int)} {n:Nat},(waysL n C).length=C.length
 | [],n=>rfl
 | d::C,n=>by rw [waysL,List.length_cons,waysL_len,List.length_cons]
theorem wayP_snoc {PL:List (Int×Int)} {to:Int} {C:List (Leg×Int)} {c:Leg×Int}:wayP PL to (C++[c])=wayP PL to C++[⟨zNo PL to c.1.dst (c.2+c.1.mins),zNo PL to c.1.frm (c.2-c.1.cut),c.1.grams,0⟩]:=by unfold wayP;rw [List.map_append];rfl
theorem wayP_len {PL:List (Int×Int)} {to:Int} {C:List (Leg×Int)}:(wayP PL to C).length=C.length:=by unfold wayP;rw [List.length_map]
theorem JS.sim {A Bo:Nat} {X X':List Nat} {G G':zH} {vp vm v4 v5 vw vw' vmost vmost':Value} {pa:Option Addr} {ca co:Nat} {ols:List Ref} {out:List (List Nat)} {l:List Pr} (h:JS A Bo X G vp vm v4 v5 vw vmost pa ca co ols out l) (hA:zG G' A=.cells false [vp,vm,.slice pa (2*l.length) ca,.slice (some ⟨Bo,0,none⟩) out.length co,v4,v5,vw',vmost']) (hk:∀b,Bo≤b→b<G.length→b∉X→zG G' b=zG G b) (hl:G.length≤G'.length) (hX:∀b∈X',b<G'.length∧(b∈X∨G.length≤b∨(b<Bo∧b≠A))):JS A Bo X' G' vp vm v4 v5 vw' vmost' pa ca co ols out l:=by
 have hAl:=zHa h.hdr
 have hBl:=zHa h.os.ou
 have hab:=h.ab
 have h1:∀u a,u<out.length→(gt ols u).1=some a→zG G' a.block=zG G a.block:=fun u a hu ha=>by
  have:=(h.os.us u hu).1.block ha
  exact hk _ (by omega) this.2 fun hm=>(h.os.sy _ (List.mem_append_right _ hm)).2.2 u a hu ha rfl
 have h2:∀a,pa=some a→zG G' a.block=zG G a.block:=fun a ha=>by
  have:=h.ar.block ha
  exact hk _ (by omega) this.2 fun hm=>(h.ax _ hm).1 (zOm.2 ⟨a,ha,rfl⟩)
 have h3:zG G' Bo=zG G Bo:=hk Bo (Nat.le_refl _) hBl fun hm=>(h.os.sy _ (List.mem_append_right _ hm)).2.1 rfl
 refine ⟨hA,own_simG h.ar h2,(h.os.sim h3 h1 hl).withY fun b hb=>?_,hab,fun b hb=>?_⟩
 ·rcases List.mem_append.1 hb with hb | hb
  ·obtain ⟨y1,y2,y3⟩:=h.os.sy b (List.mem_append_left _ hb)
   exact ⟨by omega,y2,y3⟩
  ·obtain ⟨g1,g2⟩:=hX b hb
   rcases g2 with g2 | g2 | g2
   ·obtain ⟨y1,y2,y3⟩:=h.os.sy b (List.mem_append_right _ g2)
    exact ⟨g1,y2,y3⟩
   ·exact ⟨g1,by omega,fun u a hu ha=>by have:=(h.os.us u hu).1.block ha;omega⟩
   ·exact ⟨g1,by omega,fun u a hu ha=>by have:=(h.os.us u hu).1.block ha;omega⟩
 ·obtain ⟨g1,g2⟩:=hX b hb
  rcases g2 with g2 | g2 | g2
  ·exact h.ax b g2
  ·exact ⟨fun hm=>by obtain ⟨a,ha,e⟩:=zOm.1 hm;have:=(h.ar.block ha).2;omega,by omega⟩
  ·exact ⟨fun hm=>by obtain ⟨a,ha,e⟩:=zOm.1 hm;have:=(h.ar.block ha).1;omega,g2.2⟩
theorem joinCs_ok [OB] {lim A M Bo Bn Bt Bg Bf Bd2 Bn2 Bt2 np cpn cl:Nat} {X Kk:List Nat} {G:zH} {fr:Nat→Value} {ps pp2 pl pa:Option Addr} {ns cs ca co:Nat} {to dl:Int} {vp v4 v5 vmost:Value} {ols:List Ref} {out:List (List Nat)} {l:List Pr} {SL:List (Int×Int)} {es:List ((Int×Int)×Int)} {L:List Leg} {K:List zAi} {Q:Value→zH→Prop}
  (hf:BF fr ps ns cs dl Bn Bt Bg Bf) (h:JS A Bo X G vp (.map (some M)) v4 v5 (.slice none 0 0) vmost pa ca co ols out l) (hla:lim≤A) (hM:zG G M=.map (encM kM vI es)) (hMA:M<A) (hnum:NumOk SL es)
  (hC:∀c∈zCc L to dl,(c.1.frm≠to∧(c.1.frm,c.2-c.1.cut)∈SL)∧(c.1.dst≠to→(c.1.dst,c.2+c.1.mins)∈SL)) (hO:OutOk l out) (hol:out.length=SL.length+2) (hob:∀v,(gt out v).length≤2*l.length) (hll:l.length+(zCc L to dl).length<2 ^ 27)
  (hG:zG G Bg=.cells false [.pointer (some ⟨A,0,none⟩)]) (hT:zG G Bt=.cells false [.int .i64 to]) (hFn:zG G Bf=.cells false [.func (.func 52) #[] #[.pointer (some ⟨Bt,0,none⟩),.pointer (some ⟨Bg,0,none⟩)]])
  (hb:(Bg<Bo∧Bg≠A)∧(Bt<Bo∧Bt≠A)∧(Bf<Bo∧Bf≠A)) (hKk:∀b∈Kk,b<G.length∧((b<Bo∧b≠A)∨b∈X))
  (f103:fr 103=.func (.func 44) #[] #[.pointer (some ⟨Bd2,0,none⟩),.pointer (some ⟨Bn2,0,none⟩),.pointer (some ⟨Bt2,0,none⟩)])
  (hBd:zG G Bd2=.cells false [.int .i64 dl]) (hBn:zG G Bn2=.cells false (netV pp2 np cpn pl L.length cl)) (hBt:zG G Bt2=.cells false [.int .i64 to]) (hs:Sl G encL 8 pl L) (hK:Bd2∈Kk∧Bn2∈Kk∧Bt2∈Kk∧∀a,pl=some a→L≠[]→a.block∈Kk) (hF:∀l∈L,Fine l) (hLl:L.length<2 ^ 40) (hd0:0≤dl) (hd1:dl≤maxTime)
  (hR:∀G' pa' ca' ols' out' pw cw,JS A Bo (opB pw++X) G' vp (.map (some M)) v4 v5 (.slice pw (zCc L to dl).length cw) vmost pa' ca' co ols' out' (l++wayP SL to (zCc L to dl))→OutOk (l++wayP SL to (zCc L to dl)) out'→out'.length=SL.length+2→(∀v,(gt out' v).length≤2*(l++wayP SL to (zCc L to dl)).length)→Own (G.length+2) G' encW 11 pw cw (waysL (2*l.length) (zCc L to dl))→(∀b,b<G.length→(b<Bo∧b≠A)∨b∈X→zG G' b=zG G b)→G.length+2≤G'.length→zG G' G.length=.dfr→Ret E a36 lim (K++[.mark G.length]) fr G' Q) :
  Ret E a36 lim (.code (.rangeF (t 103) [104,105] ga36_1 gb36_1)::K) fr G Q:=by
 have hAl:=zHa h.hdr
 have hBl:=zHa h.os.ou
 have hab:=h.ab
 have hlG:lim≤G.length:=by omega
 have mt:maxTime=1051898399:=rfl
 obtain ⟨f1,f3,f4,f6,f9,f10⟩:=hf
 have hcal:zCa (ev fr (t 103)) [.func (.yield (G.length+1)) #[] #[]] = some (.inl 44,[.func (.yield (G.length+1)) #[] #[],.pointer (some ⟨Bd2,0,none⟩),.pointer (some ⟨Bn2,0,none⟩),.pointer (some ⟨Bt2,0,none⟩)]):=by rw [show ev fr (t 103)=_ from f103];rfl
 rw [Ret_rangeF0 hcal]
 have old0:∀b,b<G.length→zG (G++[Blk.dfr,.loop ⟨0,none,fr,155,[104,105],ga36_1,gb36_1⟩]) b=zG G b:=fun b hb=>zHo hb
 have oldK:∀b∈Kk,zG (G++[Blk.dfr,.loop ⟨0,none,fr,155,[104,105],ga36_1,gb36_1⟩]) b=zG G b:=fun b hb=>zHo (hKk b hb).1
 refine counted_rule (lim:=lim) (Y:=G.length+1) (Bd:=Bd2) (Bn:=Bn2) (Bt:=Bt2) (np:=np) (pp:=pp2) (pl:=pl) (cp:=cpn) (cl:=cl) (L:=L) (to:=to) (dl:=dl)
  (fun rest Xr G'=>∃done pa' ca' ols' out' pw cw,done++rest=zCc L to dl∧JS A Bo (G.length::(G.length+1)::(opB pw++(X++Xr))) G' vp (.map (some M)) v4 v5 (.slice pw done.length cw) vmost pa' ca' co ols' out' (l++wayP SL to done)∧OutOk (l++wayP SL to done) out'∧out'.length=SL.length+2∧(∀v,(gt out' v).length≤2*(l++wayP SL to done).length)∧Own (G.length+2) G' encW 11 pw cw (waysL (2*l.length) done)∧(∀b∈opB pw,b∉Xr)∧zG G' G.length=.dfr∧zG G' (G.length+1)=.loop ⟨0,none,fr,155,[104,105],ga36_1,gb36_1⟩∧(∀b,b<G.length→(b<Bo∧b≠A)∨b∈X→zG G' b=zG G b)∧G.length+2≤G'.length) Kk ?_ ?_ ((oldK _ hK.1).trans hBd) ((oldK _ hK.2.1).trans hBn) ((oldK _ hK.2.2.1).trans hBt) (hs.app _) hK ?_ hF hLl hd0 hd1 (by simp;omega) ?_ ?_
 ·rintro rest Xr Xr' H H' ⟨done,pa',ca',ols',out',pw,cw,e1,e2,e3,e4,e5,e6,e7,e8,e9,e10,e11⟩ hC hXr
  have hlen:=hC.len
  have hAl':=zHa e2.hdr
  have hxw:∀b∈opB pw,b<H.length:=fun b hb=>by obtain ⟨a,ha,rfl⟩:=zOm.1 hb;exact (e6.block ha).2
  refine ⟨done,pa',ca',ols',out',pw,cw,e1,e2.sim (hC.cells e2.hdr (by simp)) (fun b hb1 hb2 _=>hC.other _ hb2 (by simp)) hlen (fun b hb=>?_),e3,e4,e5,e6.chg hC (by simp),fun b hb hm=>?_,hC.get e8 (by omega) (by simp),hC.get e9 (by omega) (by simp),fun b hb1 hb2=>by rw [hC.other b (by omega) (by simp)];exact e10 b hb1 hb2,by omega⟩
  ·simp only [List.mem_cons,List.mem_append] at hb
   rcases hb with rfl | rfl | hb | hb | hb
   ·exact ⟨by omega,.inl (by simp)⟩
   ·exact ⟨by omega,.inl (by simp)⟩
   ·exact ⟨by have:=hxw b hb;omega,.inl (by simp [hb])⟩
   ·have:=(e2.os.sy b (by simp [hb])).1
    exact ⟨by omega,.inl (by simp [hb])⟩
   ·rcases hXr b hb with h1 | ⟨h1,h2⟩
    ·have:=(e2.os.sy b (by simp [h1])).1
     exact ⟨by omega,.inl (by simp [h1])⟩
    ·exact ⟨h2,.inr (.inl h1)⟩
  ·rcases hXr b hm with h1 | ⟨h1,h2⟩
   ·exact e7 b hb h1
   ·have:=hxw b hb;omega
 ·rintro x rest Xr G' hlG' hx hKr ⟨done,pa',ca',ols',out',pw,cw,e1,e2,e3,e4,e5,e6,e7,e8,e9,e10,e11⟩
  obtain ⟨hm1,_,d,_,hm4,hm5,hm6⟩:=countC_mem hx
  have hFx:=hF _ hm1
  have hFx':=hFx
  unfold Fine at hFx'
  have hAl':=zHa e2.hdr
  have hBl':=zHa e2.os.ou
  have hpre:done.length<(zCc L to dl).length:=by rw [←e1,List.length_append,List.length_cons];omega
  have hlen0:(l++wayP SL to done).length<2 ^ 27:=by rw [List.length_append,wayP_len];omega
  rw [CallY_run (x:=⟨0,none,fr,155,[104,105],ga36_1,gb36_1⟩) e9 (by omega) rfl (by rfl)]
  rw [show setParams fr [104,105] [.agg (encL x.1).toArray,.agg #[.int .i64 x.2,.int .i64 (x.2+x.1.mins)]] = upd (upd fr 104 (.agg (encL x.1).toArray)) 105 (.agg #[.int .i64 x.2,.int .i64 (x.2+x.1.mins)]) from rfl]
  rw [zRc ga36_1.eq_1]
  refine zRp ?_
  obtain ⟨G1,e12,h12,m12⟩:=mut_set (G:=G') (R:=G.length+1) (by omega) (.loop ⟨1,none,fr,155,[104,105],ga36_1,gb36_1⟩)
  have gY:=fun X=>(Ext.refl.app (X:=X)).get' e9 (by omega)
  have hlG2:lim≤G'.length:=by omega
  simp only [f1,f3,f4,f6,f9,f10,zLl,zL0,zL1,zL2,zL3,zL4,zL5,zL6,zL7,zTa,zSa,hlG2,gY,e12,show lim≤G.length+1 by omega,SB,Nat.reduceLT,zCa,aOp,Nat.reduceEqDiff,zB,aUn,reduceCtorEq,zFr,place,zTu,Nat.reduceAdd,Nat.reduceLeDiff,zRe,Int.reduceEq,Int.reduceLT,Int.reduceLE]
  rw [zRc gb36_1.eq_1]
  have kY:∀b,b≠G.length+1→∀Z,b<G'.length→zG (G1++Z) b=zG G' b:=fun b hb Z hbl=>by rw [zHo (by rw [m12.len];exact hbl)];exact m12.other b hb
  have el12:=m12.len
  have J1:JS A Bo (G'.length::(G'.length+1)::(G.length::(G.length+1)::(opB pw++(X++Xr)))) (G1++[Blk.cells false (encL x.1),Blk.cells false [.int .i64 x.2,.int .i64 (x.2+x.1.mins)]]) vp (.map (some M)) v4 v5 (.slice pw done.length cw) vmost pa' ca' co ols' out' (l++wayP SL to done):=by
   refine e2.sim ((kY A (by omega) _ hAl').trans e2.hdr) (fun b hb1 hb2 hb3=>kY b (fun e=>hb3 (by simp [e])) _ hb2) (by simp;omega) fun b hb=>?_
   rw [List.mem_cons,List.mem_cons] at hb
   rcases hb with rfl | rfl | hb
   ·exact ⟨by simp;omega,.inr (.inl (Nat.le_refl _))⟩
   ·exact ⟨by simp;omega,.inr (.inl (by omega))⟩
   ·have:=(e2.os.sy b (List.mem_append_right _ hb)).1
    exact ⟨by simp;omega,.inl hb⟩
  have kL:∀b,b<Bo→b≠A→∀Z,zG (G1++Z) b=zG G b:=fun b hb1 hb2 Z=>by rw [kY b (by omega) _ (by omega)];exact e10 b (by omega) (.inl ⟨hb1,hb2⟩)
  have hgX:∀Z,zG (G1++Z) Bg=.cells false [.pointer (some ⟨A,0,none⟩)]:=fun Z=>(kL _ hb.1.1 hb.1.2 Z).trans hG
  have htX:∀Z,zG (G1++Z) Bt=.cells false [.int .i64 to]:=fun Z=>(kL _ hb.2.1.1 hb.2.1.2 Z).trans hT
  have hfX:∀Z,zG (G1++Z) Bf=.cells false [.func (.func 52) #[] #[.pointer (some ⟨Bt,0,none⟩),.pointer (some ⟨Bg,0,none⟩)]]:=fun Z=>(kL _ hb.2.2.1 hb.2.2.2 Z).trans hFn
  have hMX:∀Z,zG (G1++Z) M=.map (encM kM vI es):=fun Z=>(kL M (by omega) (by omega) Z).trans hM
  have haX:∀Z,zG (G1++Z) A=.cells false [vp,.map (some M),.slice pa' (2*(l++wayP SL to done).length) ca',.slice (some ⟨Bo,0,none⟩) out'.length co,v4,v5,.slice pw done.length cw,vmost]:=fun Z=>(kY A (by omega) Z hAl').trans e2.hdr
  have c5:∀X:zH,zG (G1++X) G'.length=X.getD 0 .dead:=(len_rules m12.len).2.2.1
  have c6:∀(X:zH) (j:Nat),zG (G1++X) (G'.length+j)=X.getD j .dead:=(len_rules m12.len).2.1
  have wc:IntKind.i64.wrap (x.2-x.1.cut)=x.2-x.1.cut:=zWi (by omega) (by omega)
  obtain ⟨hc1,hc2⟩:=hC x hx
  have hn1:=fun (mp:Bool) (lim:Nat) (Z:zH) (Q:Value→zH→Prop)=>node_ok (mp:=mp) (lim:=lim) (p:=(x.1.frm,x.2-x.1.cut)) (Q:=Q) (htX Z) (hgX Z) (haX Z) (hMX Z)
  have hv1:=nodeV_eq (to:=to) (p:=(x.1.frm,x.2-x.1.cut)) hnum (fun _=>hc1.2)
  have hn2:=fun (mp:Bool) (lim:Nat) (Z:zH) (Q:Value→zH→Prop)=>node_ok (mp:=mp) (lim:=lim) (p:=(x.1.dst,x.2+x.1.mins)) (Q:=Q) (htX Z) (hgX Z) (haX Z) (hMX Z)
  have hv2:=nodeV_eq (to:=to) (p:=(x.1.dst,x.2+x.1.mins)) hnum hc2
  simp only at hv1 hv2
  simp only [hv1] at hn1
  simp only [hv2] at hn2
  have hl1:=nodeOf_lt (to:=to) (p:=x.1.frm) (t:=x.2-x.1.cut) (fun _=>hc1.2)
  have hl2:=nodeOf_lt (to:=to) (p:=x.1.dst) (t:=x.2+x.1.mins) hc2
  simp only [f1,f3,f4,f6,f9,f10,zLl,zL0,zL1,zL2,zL3,zL4,zL5,zL6,zL7,zTa,zSa,hgX,hfX,c5,c6,wc,hn1,hn2,SB,Nat.reduceLT,zCa,aOp,Nat.reduceEqDiff,zB,aUn,reduceCtorEq,zFr,place,zTu,Nat.reduceAdd,Nat.reduceLeDiff,zRe,Int.reduceEq,Int.reduceLT,Int.reduceLE]
  refine join_ok (f:=zNo SL to x.1.frm (x.2-x.1.cut)) (t:=zNo SL to x.1.dst (x.2+x.1.mins)) J1 hla (by omega) (by omega) (fun v=>by have:=e5 v;omega) (by omega) fun G2 pa2 ca2 ols2 hJ2 hk2 hl2=>?_
  have hh2:=hJ2.hdr
  obtain ⟨kn,hkn⟩:∃kn,kn=2*(l++wayP SL to done).length:=⟨_,rfl⟩
  obtain ⟨n2,hn2e⟩:∃n2,n2=2*((l++wayP SL to done)++[(⟨zNo SL to x.1.dst (x.2+x.1.mins),zNo SL to x.1.frm (x.2-x.1.cut),x.1.grams,0⟩:Pr)]).length:=⟨_,rfl⟩
  obtain ⟨no,hno⟩:∃no,no=(joinO out' (zNo SL to x.1.frm (x.2-x.1.cut)) (zNo SL to x.1.dst (x.2+x.1.mins)) (2*(l++wayP SL to done).length)).length:=⟨_,rfl⟩
  rw [←hn2e,←hno] at hh2
  rw [←hkn]
  have kL2:∀b,b<Bo→b≠A→zG G2 b=zG G b:=fun b hb1 hb2=>(hk2 b (.inl ⟨hb1,hb2⟩)).trans (kL b hb1 hb2 _)
  have hg2:∀Z,zG (G2++Z) Bg=.cells false [.pointer (some ⟨A,0,none⟩)]:=fun Z=>(Ext.refl.app).cells ((kL2 _ hb.1.1 hb.1.2).trans hG)
  have h17:∀Z,zG (G2++Z) G'.length=.cells false [.int .i64 x.1.id,.int .i64 x.1.frm,.int .i64 x.1.dst,.int .i64 x.1.dep,.int .i64 x.1.mins,.int .i64 x.1.cut,.int .i64 x.1.grams,.int .u8 x.1.days]:=fun Z=>(Ext.refl.app).cells ((hk2 _ (.inr (by simp))).trans (by rw [c5];rfl))
  have h18:∀Z,zG (G2++Z) (G'.length+1)=.cells false [.int .i64 x.2,.int .i64 (x.2+x.1.mins)]:=fun Z=>(Ext.refl.app).cells ((hk2 _ (.inr (by simp))).trans (by rw [c6];rfl))
  have ha2:=fun Z=>(Ext.refl.app (X:=Z)).cells hh2
  have Ow2:Own (G.length+2) G2 encW 11 pw cw (waysL (2*l.length) done):=own_simG e6 fun a ha=>by
   have h1:=e6.block ha
   have h2:=hk2 a.block (.inr (by simp [zOm.2 ⟨a,ha,rfl⟩]))
   rw [h2];exact kY _ (by omega) _ h1.2
  simp only [List.length_append,List.length_cons,List.length_nil] at hl2
  have hlL2:lim≤G2.length:=by omega
  have hlw:(waysL (2*l.length) done).length=done.length:=waysL_len
  obtain ⟨G4,p',c',e14,O4,C4,K4,hl4,hp4,_⟩:=Own.moreD Ow2 (lim':=lim) (d:=G2.length+1) (bytes:=88) (by omega) encW_len (by decide) [(x,kn)] (by rw [hlw];simp;unfold maxBytes;omega) (by rw [hlw];simp;omega) (by omega) [.cells false (encW (x,kn)),.dead] (by omega) (by simp) (x:=.slice (some ⟨G2.length,0,none⟩) 1 1) (str:=false)
   (first_slice (m:=[(x,kn)]) (Sl.row (ro:=false) encW_len (by rw [zHn];rfl))) rfl
  have hp:=hp4 (by simp)
  subst hp
  have e14':appendLV lim (some (G2.length+1)) 11 88 false (.slice pw done.length cw) (.slice (some ⟨G2.length,0,none⟩) 1 1) (G2++[.cells false [.int .i64 x.1.id,.int .i64 x.1.frm,.int .i64 x.1.dst,.int .i64 x.1.dep,.int .i64 x.1.mins,.int .i64 x.1.cut,.int .i64 x.1.grams,.int .u8 x.1.days,.int .i64 x.2,.int .i64 (x.2+x.1.mins),.int .i64 ((kn:Nat):Int)],.dead])=some (.slice (some ⟨G2.length+1,0,none⟩) (done.length+1) c',G4++[]):=by
   have:=e14
   rw [hlw] at this
   rw [←hlw,Own.appL Ow2,hlw];exact this
  rw [List.append_nil] at O4 K4
  have k4A:zG G4 A=_:=(K4 A (by have:=zHa hJ2.hdr;omega) fun a ha=>by have:=(e6.block ha).1;omega).trans hh2
  have k4g:zG G4 Bg=_:=(K4 Bg (by have:=zHa hJ2.hdr;omega) fun a ha=>by have:=(e6.block ha).1;omega).trans ((kL2 _ hb.1.1 hb.1.2).trans hG)
  have O4l:=(O4.block rfl).2
  simp only at O4l
  have mkg:zG (((G4++[]).set G2.length Blk.dead).set (G2.length+1) Blk.dead) Bg=.cells false [.pointer (some ⟨A,0,none⟩)]:=by rw [zHs (by omega),zHs (by omega),List.append_nil];exact k4g
  have um:((((G4++[]).set G2.length Blk.dead).set (G2.length+1) Blk.dead).set G2.length (zG (G4++[]) G2.length)).set (G2.length+1) (zG (G4++[]) (G2.length+1))=G4++[]:=unmask_mask G2.length [0,1] (G4++[])
  have k4X:=fun Z=>(Ext.refl.app (X:=Z)).cells k4A
  obtain ⟨G5,e15,k5,m5⟩:=mut_set (zHa k4A) (.cells false [vp,.map (some M),.slice pa2 n2 ca2,.slice (some ⟨Bo,0,none⟩) no co,v4,v5,.slice (some ⟨G2.length+1,0,none⟩) (done.length+1) c',vmost])
  simp only [f1,f3,f4,f6,f9,f10,zLl,zL0,zL1,zL2,zL3,zL4,zL5,zL6,zL7,zTa,zSa,hg2,h17,h18,ha2,hlL2,mkg,um,e14',k4X,hla,e15,SB,Nat.reduceLT,zCa,aOp,Nat.reduceEqDiff,zB,aUn,reduceCtorEq,zFr,place,zTu,Nat.reduceAdd,Nat.reduceLeDiff,zRe,Int.reduceEq,Int.reduceLT,Int.reduceLE]
  have hAl2:=zHa hJ2.hdr
  have hpw:∀b∈opB pw,G.length+2≤b∧b<G'.length:=fun b hb=>by obtain ⟨a,ha,rfl⟩:=zOm.1 hb;exact e6.block ha
  have npw:∀b,b∉opB pw→∀a,pw=some a→b≠a.block:=fun b hb a ha e=>hb (zOm.2 ⟨a,ha,e.symm⟩)
  have hsx:∀b∈X,b<G.length:=fun b hb=>(h.os.sy b (by simp [hb])).1
  have y5:zG G5 (G.length+1)=.loop ⟨1,none,fr,155,[104,105],ga36_1,gb36_1⟩:=by
   rw [m5.other _ (by omega),K4 _ (by omega) (npw _ fun hm=>by have:=hpw _ hm;omega),hk2 _ (.inr (by simp)),zHo (by omega)];exact h12
  have el5:=m5.len
  obtain ⟨G6,e16,k6,m6⟩:=mut_set (G:=G5) (R:=G.length+1) (by omega) (.loop ⟨0,none,fr,155,[104,105],ga36_1,gb36_1⟩)
  have y5X:=fun X=>(Ext.refl.app (X:=X)).get' y5 (by omega)
  have el6:=m6.len
  refine zRp ?_
  simp only [y5X,e16,show lim≤G.length+1 by omega,SB,Nat.reduceLT,zCa,aOp,Nat.reduceEqDiff,zB,aUn,reduceCtorEq,zFr,place,zTu,Nat.reduceAdd,Nat.reduceLeDiff,zRe,Int.reduceEq,Int.reduceLT,Int.reduceLE]
  have kG:∀b,b<G2.length→b≠A→b≠G.length+1→b∉opB pw→∀Z,zG (G6++Z) b=zG G2 b:=fun b hb1 hb2 hb3 hb4 Z=>by
   rw [zHo (by omega),m6.other b hb3,m5.other b hb2];exact K4 b hb1 (npw b hb4)
  have kX:∀b,b∈(G.length::(G.length+1)::(X++Xr))→b∉opB pw→b<G'.length→b≠A→∀Z,zG (G6++Z) b=zG G' b:=fun b hb1 hb2 hb3 hb4 Z=>by
   by_cases hby:b=G.length+1
   ·subst hby;rw [zHo (by omega),k6,e9]
   ·rw [kG b (by omega) hb4 hby hb2 Z,hk2 b (.inr (by simp only [List.mem_cons,List.mem_append] at hb1⊢;rcases hb1 with h | h | h | h<;>simp [h])),kY b hby _ hb3]
  have ewp:l++wayP SL to (done++[x])=(l++wayP SL to done)++[⟨zNo SL to x.1.dst (x.2+x.1.mins),zNo SL to x.1.frm (x.2-x.1.cut),x.1.grams,0⟩]:=by rw [wayP_snoc,List.append_assoc]
  have eww:waysL (2*l.length) (done++[x])=waysL (2*l.length) done++[(x,kn)]:=by
   rw [waysL_snoc,hkn,List.length_append,wayP_len,Nat.mul_add]
  have hsy:=fun b (hb:b∈(G.length::(G.length+1)::(opB pw++(X++Xr))))=>e2.os.sy b (List.mem_append_right _ hb)
  have O6:Own (G.length+2) (G6++[]) encW 11 (some ⟨G2.length+1,0,none⟩) c' (waysL (2*l.length) done++[(x,kn)]):=((O4.mut m5 fun a ha e=>by cases ha;simp only at e;omega).mut m6 fun a ha e=>by cases ha;simp only at e;omega).app _
  have hA6:zG (G6++[]) A=.cells false [vp,.map (some M),.slice pa2 (2*(l++wayP SL to (done++[x])).length) ca2,.slice (some ⟨Bo,0,none⟩) (joinO out' (zNo SL to x.1.frm (x.2-x.1.cut)) (zNo SL to x.1.dst (x.2+x.1.mins)) kn).length co,v4,v5,.slice (some ⟨G2.length+1,0,none⟩) (done++[x]).length c',vmost]:=by
   rw [zHo (by omega),m6.other A (by omega),k5,ewp,List.length_append (as:=done),←hn2e,hkn,←hno];rfl
  have hJ2':=hJ2
  rw [←hkn,←ewp] at hJ2'
  refine ⟨⟨done++[x],pa2,ca2,ols2,joinO out' (zNo SL to x.1.frm (x.2-x.1.cut)) (zNo SL to x.1.dst (x.2+x.1.mins)) kn,some ⟨G2.length+1,0,none⟩,c',by rw [List.append_assoc];exact e1,hJ2'.sim hA6 (fun b hb1 hb2 hb3=>?_) (by simp;omega) (fun b hb=>?_), ?_,by rw [joinO_len];exact e4,fun v=>?_,by rw [eww];exact O6,fun b hb hm=>?_, ?_, ?_,fun b hb1 hb2=>?_,by omega⟩,by omega,fun j hj=>?_⟩
  ·simp only [List.mem_cons,List.mem_append,not_or] at hb3
   exact kG b hb2 (by omega) hb3.2.2.2.1 hb3.2.2.2.2.1 _
  ·simp only [List.mem_cons,List.mem_append,opB,List.not_mem_nil,or_false] at hb
   rcases hb with rfl | rfl | rfl | hb | hb
   ·exact ⟨by simp;omega,.inl (by simp)⟩
   ·exact ⟨by simp;omega,.inl (by simp)⟩
   ·exact ⟨by simp;omega,.inr (.inl (by omega))⟩
   ·have:=hsx b hb
    exact ⟨by simp;omega,.inl (by simp [hb])⟩
   ·have:=(hsy b (by simp [hb])).1
    exact ⟨by simp;omega,.inl (by simp [hb])⟩
  ·rw [ewp,hkn];exact e3.join (by omega) (by omega)
  ·have:=joinO_short (out:=out') (f:=zNo SL to x.1.frm (x.2-x.1.cut)) (t:=zNo SL to x.1.dst (x.2+x.1.mins)) (i:=kn) (v:=v) (by omega) (by omega)
   have:=e5 v
   have h1:(wayP SL to (done++[x])).length=(wayP SL to done).length+1:=by rw [wayP_len,wayP_len,List.length_append];rfl
   rw [List.length_append] at this
   rw [h1];omega
  ·simp only [opB,List.mem_singleton] at hb
   have:=(hsy b (by simp [hm])).1
   omega
  ·exact (kX _ (by simp) (fun hm=>by have:=hpw _ hm;omega) (by omega) (by omega) _).trans e8
  ·exact (kX _ (by simp) (fun hm=>by have:=hpw _ hm;omega) (by omega) (by omega) _).trans e9
  ·have nb:b∉opB pw:=fun hm=>by have:=hpw _ hm;omega
   rcases hb2 with hb2 | hb2
   ·rw [kG b (by omega) hb2.2 (by omega) nb];exact kL2 b hb2.1 hb2.2
   ·rw [kX b (by simp [hb2]) nb (by omega) (h.ax b hb2).2];exact e10 b hb1 (.inr hb2)
  ·exact kX j (by simp [hj]) (fun hm=>e7 j hm hj) (hsy j (by simp [hj])).1 (e2.ax j (by simp [hj])).2 _
 ·intro j hj;have:=(hKk j hj).1;simp;omega
 ·refine ⟨[],pa,ca,ols,out,none,0,rfl, ?_, ?_,hol, ?_,.nil,fun b hb=>by simp [opB] at hb,zHn,zHw,fun b hb _=>old0 b hb,by simp⟩
  ·have:l++wayP SL to []=l:=by unfold wayP;simp
   rw [this]
   refine h.sim ((old0 A hAl).trans h.hdr) (fun b _ hb _=>old0 b hb) (by simp) fun b hb=>?_
   simp only [List.mem_cons,List.mem_append,opB,List.not_mem_nil,false_or] at hb
   rcases hb with rfl | rfl | hb | hb
   ·exact ⟨by simp,.inr (.inl (by omega))⟩
   ·exact ⟨by simp,.inr (.inl (by omega))⟩
   ·have:=(h.os.sy b (by simp [hb])).1
    exact ⟨by simp;omega,.inl hb⟩
   ·obtain ⟨k1,k2⟩:=hKk b hb
    rcases k2 with k2 | k2
    ·exact ⟨by simp;omega,.inr (.inr k2)⟩
    ·exact ⟨by simp;omega,.inl k2⟩
  ·have:l++wayP SL to []=l:=by unfold wayP;simp
   rw [this];exact hO
  ·have:l++wayP SL to []=l:=by unfold wayP;simp
   rw [this];exact hob
 ·rintro G' ⟨done,pa',ca',ols',out',pw,cw,e1,e2,e3,e4,e5,e6,e7,e8,e9,e10,e11⟩ hkX hlen
  rw [List.append_nil] at e1
  subst e1
  rw [endK_congr e9,endK_0]
  show Ret E a36 lim (K++[.mark G.length]) fr _ _
  have hCm:Mut G' (G'.set (G.length+1) .dead) (G.length+1):=⟨by simp,fun j hj=>zHs hj⟩
  have hAl':=zHa e2.hdr
  refine hR _ pa' ca' ols' out' pw cw (e2.sim ((hCm.other A (by omega)).trans e2.hdr) (fun b hb1 hb2 hb3=>hCm.other b (fun e=>hb3 (by simp [e]))) (by rw [hCm.len];omega) fun b hb=>?_) e3 e4 e5 (e6.mut hCm fun a ha=>by have:=(e6.block ha).1;omega) (fun b hb1 hb2=>by rw [hCm.other b (by omega)];exact e10 b hb1 hb2) (by rw [hCm.len];omega) ((hCm.other G.length (by omega)).trans e8)
  rw [hCm.len]
  rcases List.mem_append.1 hb with hb | hb
  ·have:=(e2.os.sy b (by simp [hb])).1
   exact ⟨this,.inl (by simp [hb])⟩
  ·have:=(e2.os.sy b (by simp [hb])).1
   exact ⟨this,.inl (by simp [hb])⟩
theorem send_none [OB] {lim A Bn nn cn co:Nat} {G:zH} {v0 v1 v2 v4 v6 v7:Value} {po:Option Addr} {ols:List Ref} {out:List (List Nat)} {nx:List Nat} {g:Int} {Q:Value→zH→Prop}
  (hA:zG G A=.cells false [v0,v1,v2,.slice po out.length co,v4,.slice (some ⟨Bn,0,none⟩) nn cn,v6,v7]) (sO:Sl G encO 1 po ols) (hlen:ols.length=out.length) (hcut:(gt ols 0).2.1=0) (hpos:0<out.length) (hN:zG G Bn=.cells false (nx.flatMap encN)) (hnn:nx.length=nn) (hn0:0<nn)
  (hQ:∀Z,Q (.int .i64 0) (G++Z)) :
  CallR E false lim 58 [.pointer (some ⟨A,0,none⟩),.int .i64 0,.int .i64 g] G Q:=by
 refine runs' (by decide) e58 rfl ?_
 rw [b58,c58]
 simp only [n58,r58,eq_false (show ¬(0:Int)=1 by decide),SB,Nat.reduceLT,zCa,aOp,Nat.reduceEqDiff,zB,aUn,reduceCtorEq,zFr,place,zTu,Nat.reduceAdd,Nat.reduceLeDiff,zRe,Int.reduceEq,Int.reduceLT,Int.reduceLE]
 refine zRr (fun _:Unit=>0) (fun _ fr G'=>fr 0=.pointer (some ⟨A,0,none⟩)∧fr 1=.int .i64 0∧fr 8=.int .i64 0∧∃Z,G'=G++Z) () ⟨(by rfl),(by rfl),(by rfl),_,rfl⟩ ?_
 rintro _ fr G' ⟨f0,f1,f8,Z,rfl⟩ hN2
 rw [zRc l58_1.eq_1]
 refine zRp ?_
 have bAX:=fun X=>(Ext.refl.app (X:=X)).cells hA
 have sN:Sl G encN 1 (some ⟨Bn,0,none⟩) nx:=Sl.row encN_len hN
 have lN:=ld_N (i:=0) sN (by omega)
 have xN:∀(H1:zH),idxK 1 (.slice (some ⟨Bn,0,none⟩) nn cn) (.int .i64 0) H1=some (.pointer (some (elt (some ⟨Bn,0,none⟩) 1 0)),H1):=fun H1=>ix_N (i:=0) (n:=nn) sN hn0 hnn cn .i64 H1
 have lO:=ld_O (i:=0) sO (by omega)
 have xO:∀(H1:zH),idxK 1 (.slice po out.length co) (.int .i64 0) H1=some (.pointer (some (elt po 1 0)),H1):=fun H1=>ix_N (i:=0) (n:=out.length) sO hpos hlen co .i64 H1
 rw [hcut] at lO
 have hlt:¬((gt nx 0:Nat):Int)<0:=by omega
 simp only [n58,r58,f0,f1,f8,bAX,lN,xN,lO,xO,hlt,SB,Nat.reduceLT,zCa,aOp,Nat.reduceEqDiff,zB,aUn,reduceCtorEq,zFr,place,zTu,Nat.reduceAdd,Nat.reduceLeDiff,zRe,Int.reduceEq,Int.reduceLT,Int.reduceLE]
 exact hQ _
theorem JS.stays {A Bo Ba Bn Lb nn cn cv ca co:Nat} {X:List Nat} {G:zH} {vp vm vw vmost:Value} {ols:List Ref} {out:List (List Nat)} {l:List Pr} {L:List Int} (h:JS A Bo X G vp vm (.slice (some ⟨Lb,0,none⟩) L.length cv) (.slice (some ⟨Bn,0,none⟩) nn cn) vw vmost (some ⟨Ba,0,none⟩) ca co ols out l) (hLb:Lb∈X) (hBn:Bn∈X) (hne:Lb≠Bn) (hL:zG G Lb=.cells false (L.flatMap encI)) (hLl:L.length=out.length) :
  Stays Ba Bn A G [vp,vm,.slice (some ⟨Ba,0,none⟩) (2*l.length) ca,.slice (some ⟨Bo,0,none⟩) out.length co,.slice (some ⟨Lb,0,none⟩) L.length cv,.slice (some ⟨Bn,0,none⟩) nn cn,vw,vmost] (some ⟨Lb,0,none⟩) (some ⟨Bo,0,none⟩) cv co ols out L (2*l.length) ca nn cn:=by
 have hab:=h.ab
 have hBa:=h.ar.block rfl
 simp only at hBa
 have ma:Ba∈opB (some (⟨Ba,0,none⟩:Addr)):=by simp [opB]
 have axL:=h.ax Lb hLb
 have axN:=h.ax Bn hBn
 have syA:=h.os.sy Ba (List.mem_append_left _ ma)
 have syN:=h.os.sy Bn (List.mem_append_right _ hBn)
 have hLa:Lb≠Ba:=fun e=>axL.1 (by rw [e];exact ma)
 refine ⟨⟨rfl,rfl,rfl,rfl,rfl⟩,fun G' hC=>⟨hC.cells h.hdr ?_, ?_, ?_,fun v hv=>?_⟩,⟨h.os.len,hLl⟩,fun v hv=>(h.os.us v hv).2⟩
 ·simp only [List.mem_cons,List.not_mem_nil,or_false,not_or]
  exact ⟨by omega,fun e=>axN.2 e.symm⟩
 ·exact Sl.row (ro:=false) zIl (hC.cells hL (by simp only [List.mem_cons,List.not_mem_nil,or_false,not_or];exact ⟨hLa,hne⟩))
 ·exact Sl.row (ro:=false) encO_len (hC.cells h.os.ou (by simp only [List.mem_cons,List.not_mem_nil,or_false,not_or];exact ⟨by omega,fun e=>syN.2.1 e.symm⟩))
 ·have ho:=(h.os.us v hv).1
  exact (own_simG ho fun a ha=>hC.other _ (ho.block ha).2 (by
   simp only [List.mem_cons,List.not_mem_nil,or_false,not_or]
   exact ⟨syA.2.2 v a hv ha,syN.2.2 v a hv ha⟩)).sl encN_len
theorem addP_mem {PL:List (Int×Int)} {p q:Int×Int} {w:Bool}:q∈addP PL p w↔q∈PL∨(w=true∧q=p):=by
 unfold addP
 split
 ·rename_i h
  rw [List.mem_append,List.mem_singleton]
  constructor
  ·rintro (h1 | h1)
   ·exact .inl h1
   ·exact .inr ⟨h.1,h1⟩
  ·rintro (h1 | h1)
   ·exact .inl h1
   ·exact .inr h1.2
 ·rename_i h
  constructor
  ·exact .inl
  ·rintro (h1 | ⟨h1,rfl⟩)
   ·exact h1
   ·exact Classical.byContradiction fun hn=>h ⟨h1,hn⟩
theorem addS_mem {to dl:Int} {q:Int×Int}:∀{s:List Flow.Src} {PL:List (Int×Int)},q∈addS to dl PL s↔q∈PL∨∃x∈s,x.pl≠to∧x.rd≤dl∧q=(x.pl,x.rd)
 | [],PL=>by simp [addS]
 | x::s,PL=>by
   have ih:=addS_mem (to:=to) (dl:=dl) (q:=q) (s:=s) (PL:=addP PL (x.pl,x.rd) (decide (x.pl≠to)&&decide (x.rd≤dl)))
   change q∈addS to dl (addP PL (x.pl,x.rd) (decide (x.pl≠to)&&decide (x.rd≤dl))) s↔_
   rw [ih,addP_mem]
   simp only [Bool.and_eq_true,decide_eq_true_eq,List.mem_cons]
   constructor
   ·rintro ((h | ⟨⟨h1,h2⟩,h3⟩) | ⟨y,h1,h2⟩)
    ·exact .inl h
    ·exact .inr ⟨x,.inl rfl,h1,h2,h3⟩
    ·exact .inr ⟨y,.inr h1,h2⟩
   ·rintro (h | ⟨y,rfl | h1,h2,h3,h4⟩)
    ·exact .inl (.inl h)
    ·exact .inl (.inr ⟨⟨h2,h3⟩,h4⟩)
    ·exact .inr ⟨y,h1,h2,h3,h4⟩
theorem addC_mem {to:Int} {q:Int×Int}:∀{C:List (Leg×Int)} {PL:List (Int×Int)},q∈addC to PL C↔q∈PL∨∃c∈C,q=(c.1.frm,c.2-c.1.cut)∨(c.1.dst≠to∧q=(c.1.dst,c.2+c.1.mins))
 | [],PL=>by simp [addC]
 | c::C,PL=>by
   have ih:=addC_mem (to:=to) (q:=q) (C:=C) (PL:=addP (addP PL (c.1.frm,c.2-c.1.cut) true) (c.1.dst,c.2+c.1.mins) (decide (c.1.dst≠to)))
   change q∈addC to (addP (addP PL (c.1.frm,c.2-c.1.cut) true) (c.1.dst,c.2+c.1.mins) (decide (c.1.dst≠to))) C↔_
   rw [ih,addP_mem,addP_mem]
   simp only [decide_eq_true_eq,true_and,List.mem_cons]
   constructor
   ·rintro (((h | h) | h) | ⟨y,h1,h2⟩)
    ·exact .inl h
    ·exact .inr ⟨c,.inl rfl,.inl h⟩
    ·exact .inr ⟨c,.inl rfl,.inr h⟩
    ·exact .inr ⟨y,.inr h1,h2⟩
   ·rintro (h | ⟨y,rfl | h1,h2⟩)
    ·exact .inl (.inl (.inl h))
    ·rcases h2 with h2 | h2
     ·exact .inl (.inl (.inr h2))
     ·exact .inl (.inr h2)
    ·exact .inr ⟨y,h1,h2⟩
theorem places_ok {to dl:Int} {s:List Flow.Src} {C:List (Leg×Int)} {SL:List (Int×Int)} (hp:SL.Perm (addC to (addS to dl [] s) C)) (hs:SL.Pairwise plLt) (hC:∀c∈C,c.1.frm≠to):PlOk SL to dl s C:=by
 have hm:∀q,q∈SL↔(∃x∈s,x.pl≠to∧x.rd≤dl∧q=(x.pl,x.rd))∨∃c∈C,q=(c.1.frm,c.2-c.1.cut)∨(c.1.dst≠to∧q=(c.1.dst,c.2+c.1.mins)):=fun q=>by
  rw [hp.mem_iff,addC_mem,addS_mem];simp
 refine ⟨hs,fun q hq=>?_,fun x hx h1 h2=>(hm _).2 (.inl ⟨x,hx,h2,h1,rfl⟩),fun c hc=>⟨hC c hc,(hm _).2 (.inr ⟨c,hc,.inl rfl⟩)⟩,fun c hc h1=>(hm _).2 (.inr ⟨c,hc,.inr ⟨h1,rfl⟩⟩)⟩
 rcases (hm q).1 hq with ⟨x,_,h1,_,rfl⟩ | ⟨c,hc,rfl | ⟨h1,rfl⟩⟩
 ·exact h1
 ·exact hC c hc
 ·exact h1
theorem places_in {to dl:Int} {s:List Flow.Src} {C:List (Leg×Int)} {SL:List (Int×Int)} (hp:SL.Perm (addC to (addS to dl [] s) C)) (hs:∀x∈s,0≤x.rd∧x.rd≤maxTime) (hC:∀c∈C,Fine c.1∧0≤c.2∧c.2+c.1.mins≤maxTime):∀q∈SL,-10080≤q.2∧q.2≤maxTime:=fun q hq=>by
 have h:=hp.mem_iff.1 hq
 rw [addC_mem,addS_mem] at h
 rcases h with (h | ⟨x,hx,_,_,rfl⟩) | ⟨c,hc,rfl | ⟨_,rfl⟩⟩
 ·cases h
 ·have:=hs x hx;show -10080≤x.rd∧_;omega
 ·obtain ⟨h1,h2,h3⟩:=hC c hc
  unfold Fine at h1
  show -10080≤c.2-c.1.cut∧c.2-c.1.cut≤maxTime
  omega
 ·obtain ⟨h1,h2,h3⟩:=hC c hc
  unfold Fine at h1
  show -10080≤c.2+c.1.mins∧c.2+c.1.mins≤maxTime
  omega
theorem send_step [OB] {lim A Bo Lb Bn cv cn ca co:Nat} {X:List Nat} {G:zH} {vp vm vw vmost:Value} {pa:Option Addr} {ols:List Ref} {out:List (List Nat)} {L:List Int} {l:List Pr} {M:Int} {Q:Value→zH→Prop}
  (h:JS A Bo X G vp vm (.slice (some ⟨Lb,0,none⟩) L.length cv) (.slice (some ⟨Bn,0,none⟩) out.length cn) vw vmost pa ca co ols out l) (hLb:Lb∈X) (hBn:Bn∈X) (hne:Lb≠Bn) (hL:zG G Lb=.cells false (L.flatMap encI)) (hLl:L.length=out.length) (hN:zG G Bn=.cells false ((List.replicate out.length 0).flatMap encN))
  (hla:lim≤A) (hln:lim≤Bn) (hM:∀v,lvF L v≤M) (hlo:∀v,-20000≤lvF L v) (hO:OutOk l out) (hpos:0<out.length) (hout:out.length<2 ^ 40) (hll:l.length<2 ^ 40) (ho40:∀u,(gt out u).length<2 ^ 40) (hr:∀i,i / 2<l.length→0≤rm l i∧rm l i+rm l (tw i)≤big)
  (hQ:∀s l' nx' G',Sent out (lvF L) 0 big l (List.replicate out.length 0) s l' nx'→JS A Bo X G' vp vm (.slice (some ⟨Lb,0,none⟩) L.length cv) (.slice (some ⟨Bn,0,none⟩) out.length cn) vw vmost pa ca co ols out l'→(∀b,b<G.length→b∉opB pa→b≠Bn→zG G' b=zG G b)→G.length≤G'.length→Q (.int .i64 s) G') :
  CallR E false lim 58 [.pointer (some ⟨A,0,none⟩),.int .i64 0,.int .i64 big] G Q:=by
 have hab:=h.ab
 have hDone:Done out (lvF L) l (List.replicate out.length 0):=fun v k h1 h2=>by
  exfalso
  unfold gt at h1
  rw [List.getD_eq_getElem?_getD,List.getElem?_replicate] at h1
  split at h1<;>simp at h1
 rcases h.ar with ⟨e3,e1,e2⟩ | ⟨Ba,e1,e2,e3,e4⟩
 ·subst e1
  have hnil:l=[]:=by
   have:=arcsV_len (l:=l)
   rw [e3] at this
   exact List.length_eq_zero_iff.1 (by simp at this;omega)
  subst hnil
  have ho0:gt out 0=[]:=by
   apply Classical.byContradiction
   intro hc
   obtain ⟨i,r,hir⟩:=List.exists_cons_of_ne_nil hc
   have:=(hO.ok 0 i (by unfold Flow.outs;rw [hir];exact List.mem_cons_self)).1
   simp at this
  have hSent:Sent out (lvF L) 0 big [] (List.replicate out.length 0) 0 [] (List.replicate out.length 0):=(Mid.start out (lvF L) (by decide) (fun i hi=>by simp at hi) hDone).stop (by decide) (by unfold Flow.outs;rw [ho0];simp)
  refine send_none (v0:=vp) h.hdr (Sl.row (ro:=false) encO_len h.os.ou) h.os.len ?_ hpos hN (by simp) hpos fun Z=>?_
  ·rw [(h.os.us 0 hpos).2,ho0];rfl
  ·exact hQ 0 [] _ (G++Z) hSent (h.app Z) (fun b hb _ _=>zHo hb) (by simp)
 subst e1
 have hst:=h.stays hLb hBn hne hL hLl
 refine send_ok (Ba:=Ba) (Bn:=Bn) (M:=M) (by omega) hln (fun e=>(h.ax Bn hBn).1 (by simp [opB,e])) hM hlo hout ((M-lvF L 0).toNat+1) 0 big l (List.replicate out.length 0) G Q (by omega) hpos (by decide) (Int.le_refl _) hO hDone hr (by simp) (by simp) rfl hll ho40 (fun u=>?_) hst e3 hN fun s l' nx' G' hS hC hB hN'=>?_
 ·unfold gt
  rw [List.getD_eq_getElem?_getD,List.getElem?_replicate]
  split<;>simp
 ·have hlen:=hS.same.len
  refine hQ s l' nx' G' hS ⟨?_,.inr ⟨Ba,rfl,e2,hB,e4⟩, ?_,hab,h.ax⟩ (fun b hb hb1 hb2=>?_) hC.len
  ·rw [hlen];exact (hst.keep G' hC).1
  ·have syA:=h.os.sy Ba (List.mem_append_left _ (by simp [opB]))
   have syN:=h.os.sy Bn (List.mem_append_right _ hBn)
   refine h.os.sim (hC.other Bo (zHa h.os.ou) ?_) (fun u a hu ha=>hC.other _ ((h.os.us u hu).1.block ha).2 ?_) hC.len
   ·simp only [List.mem_cons,List.not_mem_nil,or_false,not_or];exact ⟨by omega,fun e=>syN.2.1 e.symm⟩
   ·simp only [List.mem_cons,List.not_mem_nil,or_false,not_or];exact ⟨syA.2.2 u a hu ha,syN.2.2 u a hu ha⟩
  ·exact hC.other b hb (by simp only [List.mem_cons,List.not_mem_nil,or_false,not_or];exact ⟨fun e=>hb1 (by simp [opB,e]),hb2⟩)
theorem reach_step [OB] {lim A Bo ca co:Nat} {X:List Nat} {G:zH} {vp vm v4 v5 vw vmost:Value} {pa:Option Addr} {ols:List Ref} {out:List (List Nat)} {l:List Pr} {Q:Value→zH→Prop}
  (h:JS A Bo X G vp vm v4 v5 vw vmost pa ca co ols out l) (hla:lim≤A) (hO:OutOk l out) (h2:2≤out.length) (hout:out.length<2 ^ 28) (ho40:∀v,(gt out v).length<2 ^ 40) (hll:l.length<2 ^ 40)
  (hQ:∀G' Lb Bn cv cn L,JS A Bo (Lb::Bn::X) G' vp vm (.slice (some ⟨Lb,0,none⟩) out.length cv) (.slice (some ⟨Bn,0,none⟩) out.length cn) vw vmost pa ca co ols out l→Lb≠Bn→G.length≤Lb→G.length≤Bn→zG G' Lb=.cells false (L.flatMap encI)→zG G' Bn=.cells false ((List.replicate out.length 0).flatMap encN)→L.length=out.length→LevOk l out (lvF L)→(∀v,-1≤lvF L v∧lvF L v<out.length)→Chg [A] G G'→Q (.bool (decide (0≤lvF L 1))) G') :
  CallR E false lim 57 [.pointer (some ⟨A,0,none⟩)] G Q:=by
 have hab:=h.ab
 have hAl:=zHa h.hdr
 have hBl:=zHa h.os.ou
 refine reach_ok (po:=some ⟨Bo,0,none⟩) (ols:=ols) (pa:=pa) h.hdr hla (by omega) (fun G' hC=>⟨?_,fun v hv=>?_, ?_⟩) h.os.len (fun v hv=>(h.os.us v hv).2) hO h2 hout ho40 hll fun G' Lb Bn cv cn L hC h1 h3 hne hA hL hN hLl hlev hbd=>?_
 ·exact Sl.row (ro:=false) encO_len (hC.cells h.os.ou (by rw [List.mem_singleton];omega))
 ·have ho:=(h.os.us v hv).1
  exact (own_simG ho fun a ha=>hC.other _ (ho.block ha).2 (by rw [List.mem_singleton];have:=(ho.block ha).1;omega)).sl encN_len
 ·exact (own_simG h.ar fun a ha=>hC.other _ (h.ar.block ha).2 (by rw [List.mem_singleton];have:=(h.ar.block ha).1;omega)).sl z2l
 ·refine hQ G' Lb Bn cv cn L ?_ hne h1 h3 hL hN hLl hlev hbd hC
  have hl:=hC.len
  have hLa:=zHa hL
  have hNa:=zHa hN
  have hk:∀b,b<G.length→b≠A→zG G' b=zG G b:=fun b hb hbA=>hC.other b hb (by rw [List.mem_singleton];exact hbA)
  refine ⟨hA,own_simG h.ar fun a ha=>hk _ (h.ar.block ha).2 (by have:=(h.ar.block ha).1;omega),(h.os.sim (hk Bo hBl (by omega)) (fun u a hu ha=>hk _ ((h.os.us u hu).1.block ha).2 (by have:=((h.os.us u hu).1.block ha).1;omega)) hl).withY fun b hb=>?_,hab,fun b hb=>?_⟩
  ·rcases List.mem_append.1 hb with hb | hb
   ·obtain ⟨y1,y2,y3⟩:=h.os.sy b (List.mem_append_left _ hb)
    exact ⟨by omega,y2,y3⟩
   ·rw [List.mem_cons,List.mem_cons] at hb
    rcases hb with rfl | rfl | hb
    ·exact ⟨hLa,by omega,fun u a hu ha=>by have:=((h.os.us u hu).1.block ha).2;omega⟩
    ·exact ⟨hNa,by omega,fun u a hu ha=>by have:=((h.os.us u hu).1.block ha).2;omega⟩
    ·obtain ⟨y1,y2,y3⟩:=h.os.sy b (List.mem_append_right _ hb)
     exact ⟨by omega,y2,y3⟩
  ·rw [List.mem_cons,List.mem_cons] at hb
   rcases hb with rfl | rfl | hb
   ·exact ⟨fun hm=>by obtain ⟨a,ha,e⟩:=zOm.1 hm;have:=(h.ar.block ha).2;omega,by omega⟩
   ·exact ⟨fun hm=>by obtain ⟨a,ha,e⟩:=zOm.1 hm;have:=(h.ar.block ha).2;omega,by omega⟩
   ·exact h.ax b hb
theorem isRecB_enc2 {ro:Bool}:∀{q:List (Int×Int)},isRecB (.cells ro (q.flatMap enc2))=false
 | []=>rfl
 | x::q=>by
   have:=isRecB_enc2 (ro:=ro) (q:=q)
   rw [List.flatMap_cons]
   show isRecB (.cells ro ([.int .i64 x.1,.int .i64 x.2]++q.flatMap enc2))=false
   exact this
theorem isRecB_encN {ro:Bool}:∀{q:List Nat},isRecB (.cells ro (q.flatMap encN))=false
 | []=>rfl
 | x::q=>by
   have:=isRecB_encN (ro:=ro) (q:=q)
   rw [List.flatMap_cons]
   show isRecB (.cells ro ([.int .i64 (x:Int)]++q.flatMap encN))=false
   exact this
theorem rm_nn {n:Nat} {l:List Pr} (h:IsFlow n l) {i:Nat} (hi:i / 2<l.length):0≤rm l i:=by
 have:=h.nn _ (gt_mem hi)
 unfold rm
 split<;>omega
theorem OutOk.alike {l l':List Pr} {out:List (List Nat)} (h:OutOk l out) (k:Flow.Alike l l'):OutOk l' out:=
 ⟨fun v i hi=>by
  obtain ⟨h1,h2,h3⟩:=h.ok v i hi
  rw [k.len,k.tl,k.hd];exact ⟨h1,h2,h3⟩,fun i hi=>by rw [k.tl];exact h.all i (by rw [k.len] at hi;exact hi)⟩
structure FSq (A Bo Lb Bn cv cn co:Nat) (X:List Nat) (G:zH) (vp vm vw:Value) (pa:Option Addr) (ca:Nat) (ols:List Ref) (out:List (List Nat)) (L:List Int) (l:List Pr):Prop where
 js:JS A Bo X G vp vm (.slice (some ⟨Lb,0,none⟩) L.length cv) (.slice (some ⟨Bn,0,none⟩) out.length cn) vw (.int .i64 (Flow.exc 1 l)) pa ca co ols out l
 xl:Lb∈X
 xn:Bn∈X
 ne:Lb≠Bn
 lb:zG G Lb=.cells false (L.flatMap encI)
 len:L.length=out.length
 nb:zG G Bn=.cells false ((List.replicate out.length 0).flatMap encN)
structure MI (lim A Bo co ca n Bn0:Nat) (X:List Nat) (G:zH) (vp vm vw:Value) (pa:Option Addr) (ols:List Ref) (out:List (List Nat)) (l0:List Pr) (k:Nat) (X':List Nat) (Lb Bn cv cn:Nat) (L:List Int) (l:List Pr) (G':zH):Prop where
 sub:∀b∈X,b∈X'
 fs:FSq A Bo Lb Bn cv cn co X' G' vp vm vw pa ca ols out L l
 lims:lim≤Lb∧lim≤Bn
 al:Flow.Alike l0 l
 fl:IsFlow n l
 lv:∀v,-20000≤lvF L v∧lvF L v≤1051898401
 ok:k≠0→LevOk l out (lvF L)
 one:k=1→0≤lvF L 1
 two:k=2→lvF L 1<0
 pos:0≤Flow.exc 1 l
 keep:∀b,b<G.length→b≠A→b∉opB pa→b≠Bn0→zG G' b=zG G b
 glen:G.length≤G'.length
 bn:Bn=Bn0∨G.length≤Bn
theorem main_ok [OB] {lim A Bo Lb Bn Bt Bg Bf Bnn cv cn co ca ns cs n:Nat} {X:List Nat} {G:zH} {fr:Nat→Value} {vp vm vw:Value} {pa ps:Option Addr} {ols:List Ref} {out:List (List Nat)} {L:List Int} {l0:List Pr} {dl:Int} {K:List zAi} {Q:Value→zH→Prop}
  (hf:BF fr ps ns cs dl Bnn Bt Bg Bf) (h:FSq A Bo Lb Bn cv cn co X G vp vm vw pa ca ols out L l0) (hla:lim≤A) (hln:lim≤Lb∧lim≤Bn) (hO:OutOk l0 out) (hfl:IsFlow n l0) (h2:2≤out.length) (hout:out.length<2 ^ 28) (hll:l0.length<2 ^ 27) (ho40:∀v,(gt out v).length<2 ^ 40)
  (hcap:∀i,i / 2<l0.length→rm l0 i+rm l0 (tw i)≤big) (hLb:∀v,-20000≤lvF L v∧lvF L v≤1051898401) {S:Nat→Bool} (hS0:S 0=true) (hS1:S 1=false) (hbnd:Flow.cut S l0<big) (hx0:0≤Flow.exc 1 l0)
  (hG:zG G Bg=.cells false [.pointer (some ⟨A,0,none⟩)]) (hb:Bg<G.length∧Bg≠A∧Bg∉opB pa∧Bg≠Bn) (f20:fr 20=.bool true)
  (hR:∀fr' G' X' Lb' Bn' cv' cn' L' l',BF fr' ps ns cs dl Bnn Bt Bg Bf→(∀b∈X,b∈X')→FSq A Bo Lb' Bn' cv' cn' co X' G' vp vm vw pa ca ols out L' l'→Flow.Alike l0 l'→IsFlow n l'→LevOk l' out (lvF L')→lvF L' 1<0→(∀b,b<G.length→b≠A→b∉opB pa→b≠Bn→zG G' b=zG G b)→G.length≤G'.length→Ret E a36 lim K fr' G' Q) :
  Ret E a36 lim (.code (.loop l36_1)::.inBlock 8::K) fr G Q:=by
 obtain ⟨bd,hbd⟩:∃bd,bd=Flow.cut S l0:=⟨_,rfl⟩
 have big_eq:big=1152921504606846976:=rfl
 refine zRr (fun z:Nat×List Nat×Nat×Nat×Nat×Nat×List Int×List Pr=>if z.1=0 then (bd-Flow.exc 1 z.2.2.2.2.2.2.2).toNat+2 else if z.1=1 then (bd-Flow.exc 1 z.2.2.2.2.2.2.2).toNat+1 else 0)
  (fun z fr G'=>BF fr ps ns cs dl Bnn Bt Bg Bf∧fr 20=.bool (decide (z.1<2))∧MI lim A Bo co ca n Bn X G vp vm vw pa ols out l0 z.1 z.2.1 z.2.2.1 z.2.2.2.1 z.2.2.2.2.1 z.2.2.2.2.2.1 z.2.2.2.2.2.2.1 z.2.2.2.2.2.2.2 G'∧z.1<3) (0,X,Lb,Bn,cv,cn,L,l0)
  ⟨hf,f20,⟨fun b hb=>hb,h,hln,.refl,hfl,hLb,fun e=>absurd rfl e,fun e=>(by cases e),fun e=>(by cases e),hx0,fun b _ _ _ _=>rfl,Nat.le_refl _,.inl rfl⟩,Nat.zero_lt_succ _⟩ ?_
 rintro ⟨k,X1,Lb1,Bn1,cv1,cn1,L1,l1⟩ fr G1 ⟨hf,f20,hM,hk3⟩ hN
 simp only at f20 hM hk3
 obtain ⟨f1,f3,f4,f6,f9,f10⟩:=hf
 rw [zRc l36_1.eq_1]
 refine zRp ?_
 have hab:=hM.fs.js.ab
 by_cases hk:k<2
 case neg=>
  have hk2:k=2:=by omega
  rw [decide_eq_false hk] at f20
  simp only [n36,r36,f20,SB,Nat.reduceLT,zCa,aOp,Nat.reduceEqDiff,zB,aUn,reduceCtorEq,zFr,place,zTu,Nat.reduceAdd,Nat.reduceLeDiff,zRe,Int.reduceEq,Int.reduceLT,Int.reduceLE]
  refine hR _ _ X1 Lb1 Bn1 cv1 cn1 L1 l1 ⟨(by exact f1),(by exact f3),(by exact f4),(by exact f6),(by exact f9),(by exact f10)⟩ hM.sub ?_ hM.al hM.fl (hM.ok (by omega)) (hM.two hk2) ?_ ?_
  ·rw [List.append_nil];exact hM.fs
  ·rw [List.append_nil];exact hM.keep
  ·rw [List.append_nil];exact hM.glen
 rw [decide_eq_true hk] at f20
 have hAl:=zHa hM.fs.js.hdr
 have kBg:∀Z,zG (G1++Z) Bg=.cells false [.pointer (some ⟨A,0,none⟩)]:=fun Z=>(Ext.refl.app (X:=Z)).cells ((hM.keep Bg hb.1 hb.2.1 hb.2.2.1 hb.2.2.2).trans hG)
 have kA:=fun Z=>(Ext.refl.app (X:=Z)).cells hM.fs.js.hdr
 have hlG:lim≤G1.length:=by omega
 obtain ⟨e1,he1⟩:∃e1,e1=Flow.exc 1 l1:=⟨_,rfl⟩
 have kA':=kA
 rw [←he1] at kA'
 have hrec:isRecB (Blk.cells false [vp,vm,.slice pa (2*l1.length) ca,.slice (some ⟨Bo,0,none⟩) out.length co,.slice (some ⟨Lb1,0,none⟩) L1.length cv1,.slice (some ⟨Bn1,0,none⟩) out.length cn1,vw,.int .i64 e1])=true:=by simp [isRecB]
 simp only [n36,r36,f1,f3,f4,f6,f9,f10,f20,kBg,kA',hlG,hrec,SB,Nat.reduceLT,zCa,aOp,Nat.reduceEqDiff,zB,aUn,reduceCtorEq,zFr,place,zTu,Nat.reduceAdd,Nat.reduceLeDiff,zRe,Int.reduceEq,Int.reduceLT,Int.reduceLE]
 simp only [List.append_nil]
 have hO1:=hO.alike hM.al
 refine send_step (M:=1051898401) hM.fs.js hM.fs.xl hM.fs.xn hM.fs.ne hM.fs.lb hM.fs.len hM.fs.nb hla hM.lims.2 (fun v=>(hM.lv v).2) (fun v=>(hM.lv v).1) hO1 (by omega) (by omega) (by have:=hM.al.len;omega) ho40 (fun i hi=>⟨rm_nn hM.fl hi,by rw [hM.al.cap i (by rw [←hM.al.len];exact hi)];exact hcap i (by rw [←hM.al.len];exact hi)⟩) fun s l2 nx2 G2 hS hJ2 hk2 hl2=>?_
 have emk:zMh (List.length G1) [] (G1++[])=G1:=by rw [List.append_nil];rfl
 have hkept:recsKept G1 G2=true:=by
  refine recsKept_of fun j hj=>?_
  obtain ⟨ro,c,hc⟩:=isRecB_cells hj
  refine hk2 j (zHa hc) (fun hm=>?_) fun e=>?_
  ·obtain ⟨a,ha,rfl⟩:=zOm.1 hm
   rcases hM.fs.js.ar with h3 | ⟨R,e5,_,e7,_⟩
   ·rw [h3.2.1] at ha;cases ha
   ·rw [e5] at ha;cases ha
    rw [e7,isRecB_enc2] at hj;cases hj
  ·rw [e,hM.fs.nb,isRecB_encN] at hj;cases hj
 refine ⟨by rw [emk];exact hkept, ?_⟩
 obtain ⟨hfl2,hx2⟩:=hS.flow hM.fl
 have hs0:=hS.lo
 have hal2:Flow.Alike l0 l2:=hM.al.trans hS.same
 have hbd2:Flow.exc 1 l2≤bd:=by
  have:=hfl2.le_cut hS0 hS1
  rw [hal2.cut,←hbd] at this;exact this
 rw [←hbd] at hbnd
 have hpos:=hM.pos
 have wx:IntKind.i64.wrap (e1+s)=e1+s:=zWi (by omega) (by omega)
 obtain ⟨n2,hn2⟩:∃n2,n2=2*l2.length:=⟨_,rfl⟩
 have hh2:=hJ2.hdr
 rw [←hn2,←he1] at hh2
 obtain ⟨G3,e3,k3,m3⟩:=mut_set (zHa hh2) (.cells false [vp,vm,.slice pa n2 ca,.slice (some ⟨Bo,0,none⟩) out.length co,.slice (some ⟨Lb1,0,none⟩) L1.length cv1,.slice (some ⟨Bn1,0,none⟩) out.length cn1,vw,.int .i64 (e1+s)])
 have kA2:=fun Z=>(Ext.refl.app (X:=Z)).cells hh2
 have hkb:∀b,b<G.length→b≠A→b∉opB pa→b≠Bn→zG G2 b=zG G b:=fun b b1 b2 b3 b4=>by
  rw [hk2 b (by have:=hM.glen;omega) b3 (by rcases hM.bn with e | e<;>omega)];exact hM.keep b b1 b2 b3 b4
 have kBg3:∀Z,zG (G3++Z) Bg=.cells false [.pointer (some ⟨A,0,none⟩)]:=fun Z=>(Ext.refl.app (X:=Z)).cells ((m3.other Bg hb.2.1).trans ((hkb Bg hb.1 hb.2.1 hb.2.2.1 hb.2.2.2).trans hG))
 refine zRp ?_
 simp only [n36,r36,f1,f3,f4,f6,f9,f10,f20,kA2,kBg3,e3,hla,wx,SB,Nat.reduceLT,zCa,aOp,Nat.reduceEqDiff,zB,aUn,reduceCtorEq,zFr,place,zTu,Nat.reduceAdd,Nat.reduceLeDiff,zRe,Int.reduceEq,Int.reduceLT,Int.reduceLE]
 simp only [List.append_nil]
 have hJ3:JS A Bo X1 G3 vp vm (.slice (some ⟨Lb1,0,none⟩) L1.length cv1) (.slice (some ⟨Bn1,0,none⟩) out.length cn1) vw (.int .i64 (Flow.exc 1 l2)) pa ca co ols out l2:=by
  refine hJ2.sim (by rw [hx2,←he1,←hn2];exact k3) (fun b b1 _ _=>m3.other b (by omega)) (by rw [m3.len];exact Nat.le_refl _) fun b hb=>⟨?_,.inl hb⟩
  rw [m3.len]
  exact (hJ2.os.sy b (List.mem_append_right _ hb)).1
 refine reach_step hJ3 hla (hO.alike hal2) h2 hout ho40 (by have:=hal2.len;omega) fun G4 Lb2 Bn2 cv2 cn2 L2 hJ4 hne4 hl4 hn4 hL4 hN4 hLl4 hlev hlv4 hC4=>?_
 refine zRp ?_
 simp only [n36,r36,f1,f3,f4,f6,f9,f10,f20,SB,Nat.reduceLT,zCa,aOp,Nat.reduceEqDiff,zB,aUn,reduceCtorEq,zFr,place,zTu,Nat.reduceAdd,Nat.reduceLeDiff,zRe,Int.reduceEq,Int.reduceLT,Int.reduceLE]
 have hl3:=m3.len
 have hA3:=zHa hJ3.hdr
 have hk':∀b,b<G.length→b≠A→b∉opB pa→b≠Bn→zG G4 b=zG G b:=fun b b1 b2 b3 b4=>by
  rw [hC4.other b (by have:=hM.glen;omega) (by rw [List.mem_singleton];exact b2),m3.other b b2];exact hkb b b1 b2 b3 b4
 have hFS:FSq A Bo Lb2 Bn2 cv2 cn2 co (Lb2::Bn2::X1) G4 vp vm vw pa ca ols out L2 l2:=⟨by rw [hLl4];exact hJ4,by simp,by simp,hne4,hL4,hLl4,hN4⟩
 have hMI:∀k',(k'=1→0≤lvF L2 1)→(k'=2→lvF L2 1<0)→MI lim A Bo co ca n Bn X G vp vm vw pa ols out l0 k' (Lb2::Bn2::X1) Lb2 Bn2 cv2 cn2 L2 l2 G4:=fun k' q1 q2=>
  ⟨fun b hb=>by simp [hM.sub b hb],hFS,⟨by omega,by omega⟩,hal2,hfl2,fun v=>by have:=hlv4 v;omega,fun _=>hlev,q1,q2,by omega,hk',by have:=hM.glen;have:=hC4.len;omega,.inr (by have:=hM.glen;omega)⟩
 by_cases hg:0≤lvF L2 1
 ·rw [decide_eq_true hg]
  have hsp:k=1→0<s:=fun e=>hS.pos (by decide) ((hM.ok (by omega)).alive (hM.one e))
  refine hN (1,Lb2::Bn2::X1,Lb2,Bn2,cv2,cn2,L2,l2) _ _ ⟨⟨(by exact f1),(by exact f3),(by exact f4),(by exact f6),(by exact f9),(by exact f10)⟩,show _=Value.bool true from (by rfl),by rw [List.append_nil];exact hMI 1 (fun _=>hg) (fun e=>absurd e (by decide)),by show 1<3;omega⟩ ?_
  simp only
  rcases (by omega:k=0∨k=1) with rfl | rfl
  ·simp;omega
  ·have:=hsp rfl
   simp;omega
 ·rw [decide_eq_false hg]
  refine hN (2,Lb2::Bn2::X1,Lb2,Bn2,cv2,cn2,L2,l2) _ _ ⟨⟨(by exact f1),(by exact f3),(by exact f4),(by exact f6),(by exact f9),(by exact f10)⟩,show _=Value.bool false from (by rfl),by rw [List.append_nil];exact hMI 2 (fun e=>absurd e (by decide)) (fun _=>by omega),by show 2<3;omega⟩ ?_
  simp only
  rcases (by omega:k=0∨k=1) with rfl | rfl<;>simp
structure Built (H G:zH) (A:Nat) (s:List Flow.Src) (C:List (Leg×Int)) (to dl:Int) (SL:List (Int×Int)) (Lv:List Int) (l:List Pr) (out:List (List Nat)) (Lb cp ca cv cw:Nat) (pp pa pw:Option Addr) (vm vo v5:Value):Prop where
 hdr:zG G A=.cells false [.slice pp SL.length cp,vm,.slice pa (2*l.length) ca,vo,.slice (some ⟨Lb,0,none⟩) Lv.length cv,v5,.slice pw C.length cw,.int .i64 (Flow.exc 1 l)]
 new:H.length≤A
 keep:∀b,b<H.length→zG G b=zG H b
 len:H.length≤G.length
 sp:Sl G enc2 2 pp SL
 sa:Sl G enc2 2 pa (arcsV l)
 sl:zG G Lb=.cells false (Lv.flatMap encI)
 sw:Sl G encW 11 pw (waysL (2*(zCp SL 2++srcP SL to dl s).length) C)
 ll:Lv.length=SL.length+2
 pl:PlOk SL to dl s C
 ns:SL.length<60000
 mem:∀q∈SL,(∃x∈s,q=(x.pl,x.rd))∨∃c∈C,q=(c.1.frm,c.2-c.1.cut)∨q=(c.1.dst,c.2+c.1.mins)
 al:Flow.Alike (graphP SL to dl s C) l
 fl:IsFlow (SL.length+2) l
 ok:OutOk l out
 lv:LevOk l out (lvF Lv)
 one:lvF Lv 1<0
 best:BestC s C to dl (firstT (lvF Lv) SL 2) (Flow.exc 1 l)
theorem PS.grow {A M:Nat} {X X':List Nat} {G:zH} {pp:Option Addr} {cp:Nat} {vs:List Value} {PL:List (Int×Int)} (h:PS A M X G pp cp vs PL) (Z:zH) (hX:∀b∈X',b∈X∨(G.length≤b∧b<G.length+Z.length)):PS A M X' (G++Z) pp cp vs PL:=by
 have hAl:=zHa h.hdr
 have hma:=h.ma
 refine ⟨(Ext.refl.app).cells h.hdr,h.own.app Z, ?_,hma,h.nd,fun b hb=>?_⟩
 ·rw [zHo (by omega)];exact h.mp
 ·rcases hX b hb with h1 | ⟨h1,h2⟩
  ·have:=h.sx b h1
   exact ⟨by simp;omega,this.2⟩
  ·refine ⟨by simp;omega,by omega,by omega,fun hm=>?_⟩
   obtain ⟨a,ha,rfl⟩:=zOm.1 hm
   have:=(h.own.block ha).2
   omega
theorem PS.mark {A M d:Nat} {X:List Nat} {G:zH} {pp:Option Addr} {cp:Nat} {vs:List Value} {PL:List (Int×Int)} (h:PS A M X G pp cp vs PL) (hd:zG G d=.dfr) (hl:d<G.length):PS A M (d::X) G pp cp vs PL:=by
 refine ⟨h.hdr,h.own,h.mp,h.ma,h.nd,fun b hb=>?_⟩
 rcases List.mem_cons.1 hb with rfl | hb
 ·refine ⟨hl,fun e=>?_,fun e=>?_,fun hm=>?_⟩
  ·rw [e,h.hdr] at hd;cases hd
  ·rw [e,h.mp] at hd;cases hd
  ·obtain ⟨a,ha,rfl⟩:=zOm.1 hm
   rcases h.own with h3 | ⟨R,e5,_,e7,_⟩
   ·rw [h3.2.1] at ha;cases ha
   ·rw [e5] at ha;cases ha
    rw [e7] at hd;cases hd
 ·exact h.sx b hb
theorem JS.more {A Bo:Nat} {X X':List Nat} {G:zH} {vp vm v4 v5 vw vmost:Value} {pa:Option Addr} {ca co:Nat} {ols:List Ref} {out:List (List Nat)} {l:List Pr} (h:JS A Bo X G vp vm v4 v5 vw vmost pa ca co ols out l) (Z:zH) (hX:∀b∈X',b∈X∨(G.length≤b∧b<G.length+Z.length)):JS A Bo X' (G++Z) vp vm v4 v5 vw vmost pa ca co ols out l:=by
 have hBl:=zHa h.os.ou
 refine h.sim ((Ext.refl.app).cells h.hdr) (fun b _ hb _=>zHo hb) (by simp) fun b hb=>?_
 rcases hX b hb with h1 | ⟨h1,h2⟩
 ·have:=(h.os.sy b (List.mem_append_right _ h1)).1
  exact ⟨by simp;omega,.inl h1⟩
 ·exact ⟨by simp;omega,.inr (.inl h1)⟩
theorem own_dfr {α:Type} {lo e c d:Nat} {G:zH} {enc:α→List Value} {p:Option Addr} {q:List α} (h:Own lo G enc e p c q) (hd:zG G d=.dfr):d∉opB p:=fun hm=>by
 obtain ⟨a,ha,rfl⟩:=zOm.1 hm
 rcases h with h3 | ⟨R,e5,_,e7,_⟩
 ·rw [h3.2.1] at ha;cases ha
 ·rw [e5] at ha;cases ha
  rw [e7] at hd;cases hd
theorem countC_len:∀{L:List Leg} {to dl:Int},(∀l∈L,Fine l)→(zCc L to dl).length≤14*L.length
 | [],to,dl,_=>by simp [zCc]
 | l::L,to,dl,h=>by
   have ih:=countC_len (L:=L) (to:=to) (dl:=dl) fun x hx=>h x (List.mem_cons_of_mem _ hx)
   have h1:=legC_len (dl:=dl) (h l List.mem_cons_self)
   unfold zCc at ih⊢
   rw [List.flatMap_cons,List.length_append,List.length_cons]
   have:(oneC to dl l).length≤14:=by
    unfold oneC;split
    ·simp
    ·exact h1
   omega
theorem allS_le:∀{s:List Flow.Src},(∀x∈s,x.gr≤1000000000)→allS s≤1000000000*s.length
 | [],_=>by simp [allS,isum]
 | x::s,h=>by
   have ih:=allS_le (s:=s) fun y hy=>h y (List.mem_cons_of_mem _ hy)
   have:=h x List.mem_cons_self
   have e:allS (x::s)=x.gr+allS s:=rfl
   rw [e,List.length_cons];omega
theorem lv_in {Lv:List Int} (h:∀x∈Lv,-20000≤x∧x≤1051898401) (v:Nat):-20000≤lvF Lv v∧lvF Lv v≤1051898401:=by
 unfold lvF
 rw [List.getD_eq_getElem?_getD]
 cases hg:Lv[v]? with
 | none=>simp
 | some x=>exact h x (List.mem_of_getElem? hg)
theorem JS.add {A Bo:Nat} {X X':List Nat} {G G':zH} {vp vm v4 v5 w4 w5 vw vmost:Value} {pa:Option Addr} {ca co:Nat} {ols:List Ref} {out:List (List Nat)} {l:List Pr} (h:JS A Bo X G vp vm v4 v5 vw vmost pa ca co ols out l) (k:JS A Bo X G' vp vm w4 w5 vw vmost pa ca co ols out l) (hX:∀b∈X',b∈X∨(G.length≤b∧b<G'.length)):JS A Bo X' G' vp vm w4 w5 vw vmost pa ca co ols out l:=by
 have hAl:=zHa h.hdr
 have hBl:=zHa h.os.ou
 refine ⟨k.hdr,k.ar,k.os.withY fun b hb=>?_,k.ab,fun b hb=>?_⟩
 ·rcases List.mem_append.1 hb with hb | hb
  ·exact k.os.sy b (List.mem_append_left _ hb)
  ·rcases hX b hb with h1 | ⟨h1,h2⟩
   ·exact k.os.sy b (List.mem_append_right _ h1)
   ·exact ⟨h2,by omega,fun u a hu ha=>by have:=((h.os.us u hu).1.block ha).2;omega⟩
 ·rcases hX b hb with h1 | ⟨h1,h2⟩
  ·exact k.ax b h1
  ·exact ⟨fun hm=>by obtain ⟨a,ha,e⟩:=zOm.1 hm;have:=(h.ar.block ha).2;omega,by omega⟩
theorem graph_cap {PL:List (Int×Int)} {to dl:Int} {s:List Flow.Src} {C:List (Leg×Int)} (h:PlOk PL to dl s C) (hs:∀x∈s,0≤x.gr∧x.gr≤1000000000) (hC:∀c∈C,0≤c.1.grams∧c.1.grams≤1000000000) {i:Nat} (hi:i / 2<(graphP PL to dl s C).length):rm (graphP PL to dl s C) i+rm (graphP PL to dl s C) (tw i)≤big:=by
 have key:(gt (graphP PL to dl s C) (i / 2)).room≤big∧(gt (graphP PL to dl s C) (i / 2)).flow=0:=by
  have hm:=gt_mem hi
  refine ⟨?_,(graphP_ok h (fun x hx=>(hs x hx).1) (fun c hc=>(hC c hc).1) hm).2.2.2⟩
  rcases graphP_mem hm with hp | hp | hp
  ·obtain ⟨j,_,_,e⟩:=chainP_mem.1 hp
   rw [e];exact Int.le_refl _
  ·obtain ⟨x,h1,_,e⟩:=srcP_mem.1 hp
   rw [e];have:=(hs x h1).2
   show x.gr≤1152921504606846976;omega
  ·obtain ⟨c,h1,e⟩:=wayP_mem.1 hp
   rw [e];have:=(hC c h1).2
   show c.1.grams≤1152921504606846976;omega
 unfold rm
 rw [tw_half]
 by_cases h2:i % 2=0
 ·rw [if_pos h2,if_neg (by rw [tw_odd];exact fun h4=>h4 h2)];omega
 ·rw [if_neg h2,if_pos ((tw_odd i).mpr h2)];omega
theorem build_ok [OB] {lim np cpn cl cs:Nat} {H:zH} {pp2 pl ps:Option Addr} {L:List Leg} {s:List Flow.Src} {to dl:Int} {Q:Value→zH→Prop}
  (hlim:lim≤H.length) (hs:Sl H encS 3 ps s) (hl:Sl H encL 8 pl L) (hF:∀l∈L,Fine l) (hLl:L.length≤8) (hd0:0≤dl) (hd1:dl≤maxTime) (hs50:s.length≤60) (hsr:∀x∈s,0≤x.rd∧x.rd≤maxTime∧0≤x.gr∧x.gr≤1000000000)
  (hQ:∀G A SL Lv l out Lb cp ca cv cw pp pa pw vm vo v5,Built H G A s (zCc L to dl) to dl SL Lv l out Lb cp ca cv cw pp pa pw vm vo v5→Q (.pointer (some ⟨A,0,none⟩)) G) :
  CallR E false lim 36 [.agg (netV pp2 np cpn pl L.length cl).toArray,.slice ps s.length cs,.int .i64 to,.int .i64 dl] H Q:=by
 have hCn:=countC_len (to:=to) (dl:=dl) hF
 have hCm:∀c∈zCc L to dl,Fine c.1∧c.1.frm≠to∧0≤c.2∧c.2+c.1.mins≤maxTime:=fun c hc=>by
  obtain ⟨h1,h2,d,_,h3,h4,h5⟩:=countC_mem hc
  exact ⟨hF _ h1,h2,by omega,by omega⟩
 have olda:∀a,ps=some a→s≠[]→a.block<H.length:=fun a ha hn=>by
  rw [ha] at hs
  obtain ⟨ro,c,h1,_⟩:=hs.2 hn
  exact zHa h1
 have oldl:∀a,pl=some a→L≠[]→a.block<H.length:=fun a ha hn=>by
  rw [ha] at hl
  obtain ⟨ro,c,h1,_⟩:=hl.2 hn
  exact zHa h1
 refine runs' (by decide) e36 rfl ?_
 rw [b36,c36]
 refine zRp ?_
 simp only [n36,r36,zNl,zN0,zN1,hlim,SB,Nat.reduceLT,zCa,aOp,Nat.reduceEqDiff,zB,aUn,reduceCtorEq,zFr,place,zTu,Nat.reduceAdd,Nat.reduceLeDiff,zRe,Int.reduceEq,Int.reduceLT,Int.reduceLE]
 obtain ⟨h0,hh0⟩:∃h0,h0=H.length:=⟨_,rfl⟩
 obtain ⟨G0,hG0⟩:∃G0,G0=H++[Blk.cells false (netV pp2 np cpn pl L.length cl),Blk.cells false [.int .i64 to],Blk.map [],Blk.cells false [.slice none 0 0,.map (some (H.length+2)),.slice none 0 0,.slice none 0 0,.slice none 0 0,.slice none 0 0,.slice none 0 0,.int .i64 0],Blk.cells false [.pointer (some ⟨H.length+3,0,none⟩)],Blk.cells false [.func (.func 52) #[] #[.pointer (some ⟨H.length+1,0,none⟩),.pointer (some ⟨H.length+4,0,none⟩)]]]:=⟨_,rfl⟩
 have b0:zG G0 h0=.cells false (netV pp2 np cpn pl L.length cl):=by rw [hG0,hh0];exact zHn
 have b1:zG G0 (h0+1)=.cells false [.int .i64 to]:=by rw [hG0,hh0];exact zHw
 have b2:zG G0 (h0+2)=.map []:=by rw [hG0,hh0];exact zHw
 have b3:zG G0 (h0+3)=.cells false [.slice none 0 0,.map (some (h0+2)),.slice none 0 0,.slice none 0 0,.slice none 0 0,.slice none 0 0,.slice none 0 0,.int .i64 0]:=by rw [hG0,hh0];exact zHw
 have b4:zG G0 (h0+4)=.cells false [.pointer (some ⟨h0+3,0,none⟩)]:=by rw [hG0,hh0];exact zHw
 have b5:zG G0 (h0+5)=.cells false [.func (.func 52) #[] #[.pointer (some ⟨h0+1,0,none⟩),.pointer (some ⟨h0+4,0,none⟩)]]:=by rw [hG0,hh0];exact zHw
 have bo:∀b,b<h0→zG G0 b=zG H b:=fun b hb=>by rw [hG0];exact zHo (by omega)
 have bl:G0.length=h0+6:=by rw [hG0,hh0];simp
 have sS0:Sl G0 encS 3 ps s:=by rw [hG0];exact hs.app _
 have sL0:Sl G0 encL 8 pl L:=by rw [hG0];exact hl.app _
 rw [←hG0]
 simp only [←hh0]
 clear hG0
 obtain ⟨X,hX⟩:∃X,X=h0::(h0+1)::(h0+4)::(h0+5)::List.range h0:=⟨_,rfl⟩
 have hXm:∀b,b<h0∨b=h0∨b=h0+1∨b=h0+4∨b=h0+5→b∈X:=fun b hb=>by rw [hX];simp;omega
 have hXi:∀b∈X,b<h0∨b=h0∨b=h0+1∨b=h0+4∨b=h0+5:=fun b hb=>by rw [hX] at hb;simp at hb;omega
 refine adds_ok (A:=h0+3) (M:=h0+2) (Bn:=h0) (Bt:=h0+1) (Bg:=h0+4) (Bf:=h0+5) (X:=X) (pp:=none) (cp:=0) (PL:=[]) (vs:=[.slice none 0 0,.slice none 0 0,.slice none 0 0,.slice none 0 0,.slice none 0 0,.int .i64 0]) (to:=to) (dl:=dl) (cs:=cs) ⟨(by rfl),(by rfl),(by rfl),(by rfl),(by rfl),(by rfl)⟩ ⟨b3,.nil,b2,by omega,List.nodup_nil,fun b hb=>?_⟩ (by omega) rfl (by simp;omega) b4 b1 ⟨hXm _ (by omega),hXm _ (by omega),fun a ha hn=>hXm _ (.inl (by rw [hh0];exact olda a ha hn))⟩ sS0 (by rfl) (by rfl) (by rfl) fun fr1 G1 pp1 cp1 hf1 hP1 hk1 hl1=>?_
 ·have:=hXi b hb
  refine ⟨by omega,by omega,by omega,by simp [opB]⟩
 obtain ⟨f1,f3,f4,f6,f9,f10⟩:=hf1
 have k0:=fun Z=>(Ext.refl.app (X:=Z)).cells ((hk1 h0 (hXm _ (by omega))).trans b0)
 have k1:=fun Z=>(Ext.refl.app (X:=Z)).cells ((hk1 (h0+1) (hXm _ (by omega))).trans b1)
 refine zRp ?_
 simp only [n36,r36,zNl,zN0,zN1,f1,f3,f4,f6,f9,f10,k0,k1,SB,Nat.reduceLT,zCa,aOp,Nat.reduceEqDiff,zB,aUn,reduceCtorEq,zFr,place,zTu,Nat.reduceAdd,Nat.reduceLeDiff,zRe,Int.reduceEq,Int.reduceLT,Int.reduceLE]
 refine counted_ok ?_
 rw [Ret_ops_nil,Ret_block]
 try simp only [List.append_nil]
 obtain ⟨G1',hG1'⟩:∃G1',G1'=G1++[Blk.cells false (netV pp2 np cpn pl L.length cl),Blk.cells false [.int .i64 to],Blk.cells false [.int .i64 dl]]:=⟨_,rfl⟩
 have c0:zG G1' G1.length=.cells false (netV pp2 np cpn pl L.length cl):=by rw [hG1'];exact zHn
 have c1:zG G1' (G1.length+1)=.cells false [.int .i64 to]:=by rw [hG1'];exact zHw
 have c2:zG G1' (G1.length+2)=.cells false [.int .i64 dl]:=by rw [hG1'];exact zHw
 have cl1:G1'.length=G1.length+3:=by rw [hG1'];simp
 obtain ⟨X2,hX2⟩:∃X2,X2=G1.length::(G1.length+1)::(G1.length+2)::X:=⟨_,rfl⟩
 have hP1':PS (h0+3) (h0+2) X2 G1' pp1 cp1 [.slice none 0 0,.slice none 0 0,.slice none 0 0,.slice none 0 0,.slice none 0 0,.int .i64 0] (addS to dl [] s):=by
  rw [hG1']
  refine hP1.grow _ fun b hb=>?_
  rw [hX2] at hb
  simp only [List.mem_cons] at hb
  rcases hb with rfl | rfl | rfl | hb
  ·exact .inr ⟨Nat.le_refl _,by simp⟩
  ·exact .inr ⟨by omega,by simp⟩
  ·exact .inr ⟨by omega,by simp⟩
  ·exact .inl hb
 have kX1:∀b∈X,zG G1' b=zG G0 b:=fun b hb=>by
  rw [hG1',zHo (hP1.sx b hb).1];exact hk1 b hb
 rw [←hG1']
 have hps:(addS to dl [] s).length≤s.length:=by have:=addS_len (to:=to) (dl:=dl) (s:=s) (PL:=[]);simpa using this
 refine addCs_ok (A:=h0+3) (M:=h0+2) (Bn:=h0) (Bt:=h0+1) (Bg:=h0+4) (Bf:=h0+5) (X:=X2) (Bd2:=G1.length+2) (Bn2:=G1.length) (Bt2:=G1.length+1) (np:=np) (cpn:=cpn) (cl:=cl) (pp2:=pp2) (pl:=pl) (L:=L) (to:=to) (dl:=dl) (ps:=ps) (ns:=s.length) (cs:=cs) ⟨(by exact f1),(by exact f3),(by exact f4),(by exact f6),(by exact f9),(by exact f10)⟩ hP1' (by omega) rfl (by omega)
  ((kX1 _ (hXm _ (by omega))).trans b4) ((kX1 _ (hXm _ (by omega))).trans b1) ⟨by rw [hX2];simp [hXm (h0+4) (by omega)],by rw [hX2];simp [hXm (h0+1) (by omega)]⟩ (by rfl) c2 c0 c1
  (sl_keep sL0 fun a ha hn=>kX1 _ (hXm _ (.inl (by rw [hh0];exact oldl a ha hn)))) ⟨by rw [hX2];simp,by rw [hX2];simp,by rw [hX2];simp,fun a ha hn=>by rw [hX2];simp [hXm a.block (.inl (by rw [hh0];exact oldl a ha hn))]⟩ hF (by omega) hd0 hd1 fun G2 pp2' cp2' hP2 hk2 hdf2 hl2=>?_
 have kX2:∀b∈X,zG G2 b=zG G0 b:=fun b hb=>(hk2 b (by rw [hX2];simp [hb])).trans (kX1 b hb)
 have k4:=fun Z=>(Ext.refl.app (X:=Z)).cells ((kX2 (h0+4) (hXm _ (by omega))).trans b4)
 refine zRp ?_
 rw [show ∀(a b c d:zAi),[a,b,c]++[d]=[a,b,c,d] from fun _ _ _ _=>rfl]
 simp only [n36,r36,f1,f3,f4,f6,f9,f10,k4,SB,Nat.reduceLT,zCa,aOp,Nat.reduceEqDiff,zB,aUn,reduceCtorEq,zFr,place,zTu,Nat.reduceAdd,Nat.reduceLeDiff,zRe,Int.reduceEq,Int.reduceLT,Int.reduceLE]
 try simp only [List.append_nil]
 have hP2':=hP2.mark hdf2 (by omega)
 have hlen2:(addC to (addS to dl [] s) (zCc L to dl)).length≤s.length+2*(zCc L to dl).length:=by
  have:=addC_len (to:=to) (C:=zCc L to dl) (PL:=addS to dl [] s);omega
 refine order_ok (v2:=.slice none 0 0) hP2' (by omega) (by omega) fun G3 pp3 cp3 SL Bo pa ca co ols out es hJ3 hperm hlt3 hO3 hol3 hob3 hcl3 hown3 hpb3 hGB3 hM3 hnum3 hk3 hl3=>?_
 have hpl:PlOk SL to dl s (zCc L to dl):=places_ok hperm hlt3 fun c hc=>(hCm c hc).2.1
 have hin:=places_in hperm (fun x hx=>⟨(hsr x hx).1,(hsr x hx).2.1⟩) fun c hc=>⟨(hCm c hc).1,(hCm c hc).2.2⟩
 have hSLn:=hperm.length_eq
 have hmem:∀q∈SL,(∃x∈s,q=(x.pl,x.rd))∨∃c∈zCc L to dl,q=(c.1.frm,c.2-c.1.cut)∨q=(c.1.dst,c.2+c.1.mins):=fun q hq=>by
  have:=hperm.mem_iff.1 hq
  rw [addC_mem,addS_mem] at this
  rcases this with (h | ⟨x,hx,_,_,e⟩) | ⟨c,hc,e | ⟨_,e⟩⟩
  ·cases h
  ·exact .inl ⟨x,hx,e⟩
  ·exact .inr ⟨c,hc,.inl e⟩
  ·exact .inr ⟨c,hc,.inr e⟩
 have kX3:∀b∈X,zG G3 b=zG G0 b:=fun b hb=>(hk3 b (by rw [hX2];simp [hb])).trans (kX2 b hb)
 refine zRp ?_
 simp only [n36,r36,f1,f3,f4,f6,f9,f10,SB,Nat.reduceLT,zCa,aOp,Nat.reduceEqDiff,zB,aUn,reduceCtorEq,zFr,place,zTu,Nat.reduceAdd,Nat.reduceLeDiff,zRe,Int.reduceEq,Int.reduceLT,Int.reduceLE]
 try simp only [List.append_nil]
 refine joinS_ok (Bn:=h0) (Bt:=h0+1) (Bg:=h0+4) (Bf:=h0+5) (s:=s) (ps:=ps) (cs:=cs) (to:=to) (dl:=dl) ⟨(by exact f1),(by exact f3),(by exact f4),(by exact f6),(by exact f9),(by exact f10)⟩ hJ3 (by omega) hM3 (by omega) hnum3 hpl.src hO3 hol3 hob3 (by omega) ((kX3 _ (hXm _ (by omega))).trans b4) ((kX3 _ (hXm _ (by omega))).trans b1) ((kX3 _ (hXm _ (by omega))).trans b5)
  ⟨⟨by omega,by omega⟩,⟨by omega,by omega⟩,⟨by omega,by omega⟩,fun a ha hn=>by have:=olda a ha hn;omega⟩ (sl_keep sS0 fun a ha hn=>kX3 _ (hXm _ (.inl (by rw [hh0];exact olda a ha hn)))) (by rfl) (by rfl) (by rfl) fun fr4 G4 pa4 ca4 ols4 out4 hf4 hJ4 hO4 hol4 hob4 hk4 hl4=>?_
 clear f1 f3 f4 f6 f9 f10
 obtain ⟨f1,f3,f4,f6,f9,f10⟩:=hf4
 have kX4:∀b∈X,zG G4 b=zG G0 b:=fun b hb=>(hk4 b (by have:=hXi b hb;omega) (by have:=hXi b hb;omega)).trans (kX3 b hb)
 have k40:=fun Z=>(Ext.refl.app (X:=Z)).cells ((kX4 h0 (hXm _ (by omega))).trans b0)
 have k41:=fun Z=>(Ext.refl.app (X:=Z)).cells ((kX4 (h0+1) (hXm _ (by omega))).trans b1)
 refine zRp ?_
 simp only [n36,r36,zNl,zN0,zN1,f1,f3,f4,f6,f9,f10,k40,k41,SB,Nat.reduceLT,zCa,aOp,Nat.reduceEqDiff,zB,aUn,reduceCtorEq,zFr,place,zTu,Nat.reduceAdd,Nat.reduceLeDiff,zRe,Int.reduceEq,Int.reduceLT,Int.reduceLE]
 refine counted_ok ?_
 rw [Ret_ops_nil,Ret_block]
 try simp only [List.append_nil]
 obtain ⟨G4',hG4'⟩:∃G4',G4'=G4++[Blk.cells false (netV pp2 np cpn pl L.length cl),Blk.cells false [.int .i64 to],Blk.cells false [.int .i64 dl]]:=⟨_,rfl⟩
 have e0:zG G4' G4.length=.cells false (netV pp2 np cpn pl L.length cl):=by rw [hG4'];exact zHn
 have e1:zG G4' (G4.length+1)=.cells false [.int .i64 to]:=by rw [hG4'];exact zHw
 have e2:zG G4' (G4.length+2)=.cells false [.int .i64 dl]:=by rw [hG4'];exact zHw
 have el4:G4'.length=G4.length+3:=by rw [hG4'];simp
 have kB4:∀b,b<G4.length→zG G4' b=zG G4 b:=fun b hb=>by rw [hG4'];exact zHo hb
 obtain ⟨X4,hX4⟩:∃X4,X4=[G4.length,G4.length+1,G4.length+2]:=⟨_,rfl⟩
 have hX4m:∀b∈X4,G4.length≤b∧b<G4'.length:=fun b hb=>by rw [hX4] at hb;simp at hb;omega
 have hBo4:=zHa hJ4.os.ou
 have hJ4':JS (h0+3) Bo X4 G4' (.slice pp3 SL.length cp3) (.map (some (h0+2))) (.slice none 0 0) (.slice none 0 0) (.slice none 0 0) (.int .i64 0) pa4 ca4 co ols4 out4 (zCp SL 2++srcP SL to dl s):=by
  rw [hG4']
  refine hJ4.more _ fun b hb=>.inr ?_
  have:=hX4m b hb
  simp only [List.length_cons,List.length_nil];omega
 have kX4':∀b∈X,zG G4' b=zG G0 b:=fun b hb=>(kB4 b (by have:=hXi b hb;omega)).trans (kX4 b hb)
 rw [←hG4']
 have hsn:=srcP_len (PL:=SL) (to:=to) (dl:=dl) (s:=s)
 have hll4:(zCp SL 2++srcP SL to dl s).length≤SL.length+s.length:=by rw [List.length_append];omega
 refine joinCs_ok (M:=h0+2) (Bn:=h0) (Bt:=h0+1) (Bg:=h0+4) (Bf:=h0+5) (X:=X4) (Kk:=X4++List.range h0) (Bd2:=G4.length+2) (Bn2:=G4.length) (Bt2:=G4.length+1) (np:=np) (cpn:=cpn) (cl:=cl) (pp2:=pp2) (pl:=pl) (L:=L) (to:=to) (dl:=dl) (ps:=ps) (ns:=s.length) (cs:=cs) ⟨(by exact f1),(by exact f3),(by exact f4),(by exact f6),(by exact f9),(by exact f10)⟩ hJ4' (by omega)
  ((kB4 _ (by omega)).trans ((hk4 (h0+2) (by omega) (by omega)).trans hM3)) (by omega) hnum3 (fun c hc=>⟨hpl.from' c hc,hpl.dest c hc⟩) hO4 hol4 hob4 (by omega)
  ((kX4' _ (hXm _ (by omega))).trans b4) ((kX4' _ (hXm _ (by omega))).trans b1) ((kX4' _ (hXm _ (by omega))).trans b5) ⟨⟨by omega,by omega⟩,⟨by omega,by omega⟩,⟨by omega,by omega⟩⟩
  (fun b hb=>by
   rcases List.mem_append.1 hb with hb | hb
   ·exact ⟨(hX4m b hb).2,.inr hb⟩
   ·rw [List.mem_range] at hb
    exact ⟨by omega,.inl ⟨by omega,by omega⟩⟩) (by rfl) e2 e0 e1
  (sl_keep sL0 fun a ha hn=>kX4' _ (hXm _ (.inl (by rw [hh0];exact oldl a ha hn)))) ⟨by rw [hX4];simp,by rw [hX4];simp,by rw [hX4];simp,fun a ha hn=>List.mem_append_right _ (List.mem_range.2 (by rw [hh0];exact oldl a ha hn))⟩ hF (by omega) hd0 hd1 fun G5 pa5 ca5 ols5 out5 pw cw hJ5 hO5 hol5 hob5 hown5 hk5 hl5 hdf5=>?_
 have kX5:∀b∈X,zG G5 b=zG G0 b:=fun b hb=>(hk5 b (by have:=hXi b hb;omega) (.inl (by have:=hXi b hb;omega))).trans (kX4' b hb)
 have k54:=fun Z=>(Ext.refl.app (X:=Z)).cells ((kX5 (h0+4) (hXm _ (by omega))).trans b4)
 have hBo5:=zHa hJ5.os.ou
 have low5:∀b,b<Bo→b≠h0+3→zG G5 b=zG G3 b:=fun b q1 q2=>(hk5 b (by omega) (.inl ⟨q1,q2⟩)).trans ((kB4 b (by omega)).trans (hk4 b q1 q2))
 have hsp5:Own (h0+3+1) G5 enc2 2 pp3 cp3 SL:=own_simG hown3 fun a ha=>low5 _ (hpb3 a ha) (by have:=(hown3.block ha).1;omega)
 refine zRp ?_
 rw [show ∀(a b c d e:zAi),[a,b,c,d]++[e]=[a,b,c,d,e] from fun _ _ _ _ _=>rfl]
 simp only [n36,r36,f1,f3,f4,f6,f9,f10,k54,SB,Nat.reduceLT,zCa,aOp,Nat.reduceEqDiff,zB,aUn,reduceCtorEq,zFr,place,zTu,Nat.reduceAdd,Nat.reduceLeDiff,zRe,Int.reduceEq,Int.reduceLT,Int.reduceLE]
 try simp only [List.append_nil]
 refine rank_ok hJ5 (by omega) hsp5 hol5 (by omega) hin fun G6 Lv hJ6 hB6 hL6 hLl6 hLv6 hk6 hl6=>?_
 refine zRp ?_
 simp only [n36,r36,f1,f3,f4,f6,f9,f10,SB,Nat.reduceLT,zCa,aOp,Nat.reduceEqDiff,zB,aUn,reduceCtorEq,zFr,place,zTu,Nat.reduceAdd,Nat.reduceLeDiff,zRe,Int.reduceEq,Int.reduceLT,Int.reduceLE]
 try simp only [List.append_nil]
 have hal0:(graphP SL to dl s (zCc L to dl)).length≤SL.length+s.length+(zCc L to dl).length:=by
  unfold graphP;rw [List.length_append,wayP_len];omega
 have hgn:∀x∈s,0≤x.gr:=fun x hx=>(hsr x hx).2.2.1
 have hgC:∀c∈zCc L to dl,0≤c.1.grams∧c.1.grams≤1000000000:=fun c hc=>by
  have:=(hCm c hc).1
  unfold Fine at this;omega
 have hall:allS s<big:=by
  have:=allS_le (s:=s) fun x hx=>(hsr x hx).2.2.2
  show allS s<1152921504606846976
  omega
 have hw5:∀b∈opB pw,G4'.length+2≤b∧b<G5.length:=fun b hb=>by obtain ⟨a,ha,rfl⟩:=zOm.1 hb;exact hown5.block ha
 have hFS:FSq (h0+3) Bo (G5.length+1) G5.length out5.length out5.length co ((G5.length+1)::G5.length::(opB pw++X4)) G6 (.slice pp3 SL.length cp3) (.map (some (h0+2))) (.slice pw (zCc L to dl).length cw) pa5 ca5 ols5 out5 Lv (graphP SL to dl s (zCc L to dl)):=by
  refine ⟨?_,by simp,by simp,by omega,hL6,hLl6,hB6⟩
  rw [hLl6,exc_zero (v:=1) fun p hp=>(graphP_ok hpl hgn (fun c hc=>(hgC c hc).1) hp).2.2.2]
  refine hJ5.add hJ6 fun b hb=>?_
  rw [List.mem_cons,List.mem_cons] at hb
  rcases hb with rfl | rfl | hb
  ·exact .inr (by omega)
  ·exact .inr (by omega)
  ·exact .inl hb
 have npa:∀b,b≤Bo→b∉opB pa5:=fun b hb hm=>by
  obtain ⟨a,ha,rfl⟩:=zOm.1 hm
  have:=(hJ5.ar.block ha).1;omega
 have kX6:∀b∈X,zG G6 b=zG G0 b:=fun b hb=>(hk6 b (by have:=hXi b hb;omega) (by have:=hXi b hb;omega)).trans (kX5 b hb)
 refine main_ok (n:=SL.length+2) (S:=setT SL noT) (Bnn:=h0) (Bt:=h0+1) (Bg:=h0+4) (Bf:=h0+5) (ps:=ps) (ns:=s.length) (cs:=cs) (dl:=dl) ⟨(by exact f1),(by exact f3),(by exact f4),(by exact f6),(by exact f9),(by exact f10)⟩ hFS (by omega) ⟨by omega,by omega⟩ hO5 (graphP_flow hpl hgn fun c hc=>(hgC c hc).1) (by omega) (by omega) (by omega) (fun v=>by have:=hob5 v;have e:(zCp SL 2++srcP SL to dl s++wayP SL to (zCc L to dl)).length=(graphP SL to dl s (zCc L to dl)).length:=rfl;omega) (fun i hi=>graph_cap hpl (fun x hx=>(hsr x hx).2.2) hgC hi) (lv_in hLv6) rfl rfl ?_ (by rw [exc_zero (v:=1) fun p hp=>(graphP_ok hpl hgn (fun c hc=>(hgC c hc).1) hp).2.2.2];exact Int.le_refl _)
  ((kX6 _ (hXm _ (by omega))).trans b4) ⟨by omega,by omega,npa _ (by omega),by omega⟩ (by rfl) fun fr7 G7 X7 Lb7 Bn7 cv7 cn7 L7 l7 hf7 hs7 hFS7 hal7 hfl7 hlv7 hone7 hk7 hl7=>?_
 ·rw [graph_cut rfl hpl]
  unfold wt
  rw [wC_noT]
  have:=wS_all (T:=noT) (dl:=dl) hgn
  omega
 clear f1 f3 f4 f6 f9 f10
 obtain ⟨f1,f3,f4,f6,f9,f10⟩:=hf7
 have hlow6:∀b,b<G5.length→b≠h0+3→b∉opB pa5→zG G7 b=zG G5 b:=fun b q1 q2 q3=>(hk7 b (by omega) q2 q3 (by omega)).trans (hk6 b q1 q2)
 have hlow7:∀b,b<Bo→b≠h0+3→zG G7 b=zG G3 b:=fun b q1 q2=>(hlow6 b (by omega) q2 (npa b (by omega))).trans (low5 b q1 q2)
 have kX7:∀b∈X,zG G7 b=zG G0 b:=fun b hb=>(hlow6 b (by have:=hXi b hb;omega) (by have:=hXi b hb;omega) (npa b (by have:=hXi b hb;omega))).trans (kX5 b hb)
 have k74:=(kX7 (h0+4) (hXm _ (by omega))).trans b4
 have d1:zG G7 G1'.length=.dfr:=(hlow7 _ (by omega) (by omega)).trans ((hk3 _ (by simp)).trans hdf2)
 have d2:zG G7 G4'.length=.dfr:=(hlow6 _ (by omega) (by omega) (own_dfr hJ5.ar hdf5)).trans hdf5
 have d1':zG (G7.set G4'.length .dead) G1'.length=.dfr:=by rw [zHs (by omega)];exact d1
 simp only [n36,r36,f1,f3,f4,f6,f9,f10,k74,d2,d1',show lim≤G4'.length by omega,show lim≤G1'.length by omega,SB,Nat.reduceLT,zCa,aOp,Nat.reduceEqDiff,zB,aUn,reduceCtorEq,zFr,place,zTu,Nat.reduceAdd,Nat.reduceLeDiff,zRe,Int.reduceEq,Int.reduceLT,Int.reduceLE]
 have k8:∀b,b≠G1'.length→b≠G4'.length→zG ((G7.set G4'.length .dead).set G1'.length .dead) b=zG G7 b:=fun b q1 q2=>by rw [zHs q1,zHs q2]
 have k8c:∀b ro c,zG G7 b=.cells ro c→zG ((G7.set G4'.length .dead).set G1'.length .dead) b=.cells ro c:=fun b ro c hb=>by
  rw [k8 b (fun e=>by rw [e,d1] at hb;cases hb) fun e=>by rw [e,d2] at hb;cases hb];exact hb
 have hsp7:Sl G7 enc2 2 pp3 SL:=(own_simG hsp5 fun a ha=>by
  have:=hpb3 a ha
  exact hlow6 _ (by omega) (by have:=(hown3.block ha).1;omega) (npa _ (by omega))).sl z2l
 have hsw7:Sl G7 encW 11 pw (waysL (2*(zCp SL 2++srcP SL to dl s).length) (zCc L to dl)):=(own_simG hown5 fun a ha=>by
  have hm:a.block∈opB pw:=zOm.2 ⟨a,ha,rfl⟩
  have:=hw5 _ hm
  exact hlow6 _ this.2 (by omega) (hJ5.ax _ (List.mem_append_left _ hm)).1).sl encW_len
 refine hQ _ (h0+3) SL L7 l7 out5 Lb7 cp3 ca5 cv7 cw pp3 pa5 pw (.map (some (h0+2))) (.slice (some ⟨Bo,0,none⟩) out5.length co) (.slice (some ⟨Bn7,0,none⟩) out5.length cn7) ⟨k8c _ _ _ hFS7.js.hdr,by omega,fun b hb=>?_,by simp;omega,hsp7.sim k8c,(hFS7.js.ar.sl z2l).sim k8c,k8c _ _ _ hFS7.lb,hsw7.sim k8c,by rw [hFS7.len];exact hol5,hpl,by omega,hmem,hal7,hfl7,hO5.alike hal7,hlv7,hone7, ?_⟩
 ·rw [k8 b (by omega) (by omega),kX7 b (hXm _ (by omega))];exact bo b (by omega)
 ·exact run_best hpl hal7 hfl7 (hO5.alike hal7) hlv7 hone7 hgn (fun c hc=>(hCm c hc).1) hall
structure AllOk (P:List Int) (L:List Leg) (s:List Flow.Src) (to dl:Int):Prop where
 net:NetOk 50 P L (posN P)
 to':to∈P
 d0:0≤dl
 d1:dl≤maxTime
 ns:s.length≤50
 src:∀x∈s,SOk P x
theorem allowed_0 {P:List Int} {L:List Leg} {s:List Flow.Src} {to dl:Int} (h:zAn P L s to dl=0):AllOk P L s to dl:=by
 unfold zAn at h
 by_cases h1:validN P L=0
 case neg=>rw [if_pos h1] at h;exact absurd h h1
 rw [if_neg (by simpa using h1)] at h
 by_cases h2:to∈P∧0≤dl∧dl≤maxTime
 case neg=>rw [if_pos h2] at h;cases h
 rw [if_neg (by simpa using h2)] at h
 by_cases h3:50<s.length
 case pos=>rw [if_pos h3] at h;cases h
 rw [if_neg h3] at h
 by_cases h4:∀x∈s,SOk P x
 case neg=>rw [if_neg h4] at h;cases h
 exact ⟨valid_net h1,h2.1,h2.2.1,h2.2.2,by omega,h4⟩
noncomputable def mostN (s:List Flow.Src) (C:List (Leg×Int)) (to dl:Int):Int:=Classical.epsilon fun v=>∃T,BestC s C to dl T v
noncomputable def cutT (s:List Flow.Src) (C:List (Leg×Int)) (to dl:Int):Int→Option Int:=Classical.epsilon fun T=>BestC s C to dl T (mostN s C to dl)
theorem mostN_of {s:List Flow.Src} {C:List (Leg×Int)} {to dl v:Int} {T:Int→Option Int} (h:BestC s C to dl T v):BestC s C to dl (cutT s C to dl) (mostN s C to dl):=
 Classical.epsilon_spec (Classical.epsilon_spec (p:=fun v=>∃T,BestC s C to dl T v) ⟨v,T,h⟩)
theorem mostN_eq {s:List Flow.Src} {C:List (Leg×Int)} {to dl v:Int} {T:Int→Option Int} (h:BestC s C to dl T v):v=mostN s C to dl∧T=cutT s C to dl:=by
 obtain ⟨h1,h2⟩:=h.uniq (mostN_of h)
 exact ⟨h1,funext h2⟩
theorem Ret.out [OB] {af:zAf} {lim:Nat} {k:List zAi} {fr:Nat→Value} {H:zH} {p:Prop} (h:Ret E af lim k fr H fun _ _=>p):p:=by
 obtain ⟨n,L,h1,h2,h3⟩:=h
 obtain ⟨x,rfl⟩:=h2 rfl
 exact h3 x (by simp)
theorem allowed_v {P:List Int} {L:List Leg} {s:List Flow.Src} {to dl:Int} (ha:zAn P L s to dl=0):validN P L=0:=by
 apply Classical.byContradiction
 intro hc
 unfold zAn at ha
 rw [if_pos hc] at ha;exact hc ha
theorem built_in {H G:zH} {A:Nat} {P:List Int} {L:List Leg} {s:List Flow.Src} {to dl:Int} {SL:List (Int×Int)} {Lv:List Int} {l:List Pr} {out:List (List Nat)} {Lb cp ca cv cw:Nat} {pp pa pw:Option Addr} {vm vo v5:Value} (h:Built H G A s (zCc L to dl) to dl SL Lv l out Lb cp ca cv cw pp pa pw vm vo v5) (hA:AllOk P L s to dl):∀p t,firstT (lvF Lv) SL 2 p=some t→0≤t∧t≤maxTime∧p∈P:=fun p t ht=>by
 obtain ⟨j,h1,h2,_⟩:=firstT_some ht
 have hd1:=hA.d1
 rcases h.mem _ (gt_mem h1) with ⟨x,hx,e⟩ | ⟨c,hc,e⟩
 ·rw [h2] at e
  cases e
  obtain ⟨g1,g2,g3,_⟩:=hA.src x hx
  exact ⟨g2,g3,g1⟩
 ·obtain ⟨m1,m2,d,m3,m4,m5,m6⟩:=countC_mem hc
  have hF:=hA.net.fine _ m1
  unfold Fine at hF
  unfold goes at m3
  simp only [Bool.and_eq_true,decide_eq_true_eq] at m3
  rw [h2] at e
  rcases e with e | e<;>cases e
  ·exact ⟨by omega,by omega,hA.net.frm _ m1⟩
  ·exact ⟨by omega,by omega,hA.net.dst _ m1⟩
noncomputable def mostA (P:List Int) (L:List Leg) (s:List Flow.Src) (to dl:Int):Int:=if zAn P L s to dl=0 then mostN s (zCc L to dl) to dl else 0
section
variable {pp pl ps:Option Addr} {P:List Int} {L:List Leg} {s:List Flow.Src} {cp cl cs:Nat} {to dl:Int} {H:zH}
theorem most_run [OB] {R:Value→zH→Prop} (hn:NetIn H pp pl P L) (hs:Sl H encS 3 ps s) (hsl:s.length<2 ^ 63) (hLl:validN P L=0→L.length≤8)
  (hQ:∀v G,(zAn P L s to dl≠0→v=0)→(zAn P L s to dl=0→∃T,BestC s (zCc L to dl) to dl T v∧∀p t,T p=some t→0≤t∧t≤maxTime∧p∈P)→R (.tuple #[.int .i64 v,.int .i64 (zAn P L s to dl)]) G) :
  Ret E a15 H.length [.code a15.body] (zFr [.agg (netV pp P.length cp pl L.length cl).toArray,.slice ps s.length cs,.int .i64 to,.int .i64 dl]) (H++[]) R:=by
 rw [b15,c15]
 have hlim:H.length≤H.length:=Nat.le_refl _
 by_cases ha:zAn P L s to dl=0
 case neg=>
  simp only [n15,r15,zNl,zN0,zN1,hlim,allowed_ok (hn.app _) (hs.app _) hsl,eq_false ha,SB,Nat.reduceLT,zCa,aOp,Nat.reduceEqDiff,zB,aUn,reduceCtorEq,zFr,place,zTu,Nat.reduceAdd,Nat.reduceLeDiff,zRe,Int.reduceEq,Int.reduceLT,Int.reduceLE]
  exact hQ 0 _ (fun _=>rfl) (fun h=>absurd h ha)
 have hA:=allowed_0 ha
 simp only [n15,r15,zNl,zN0,zN1,hlim,allowed_ok (hn.app _) (hs.app _) hsl,ha,SB,Nat.reduceLT,zCa,aOp,Nat.reduceEqDiff,zB,aUn,reduceCtorEq,zFr,place,zTu,Nat.reduceAdd,Nat.reduceLeDiff,zRe,Int.reduceEq,Int.reduceLT,Int.reduceLE]
 refine build_ok (by simp) (hs.app _) (hn.app _).sl hA.net.fine (hLl (allowed_v ha)) hA.d0 hA.d1 (by have:=hA.ns;omega) (fun x hx=>(hA.src x hx).2) fun G A SL Lv l out Lb cp ca cv cw pp' pa pw vm vo v5 hB=>?_
 have kA:=fun Z=>(Ext.refl.app (X:=Z)).cells hB.hdr
 refine zRp ?_
 simp only [n15,r15,kA,SB,Nat.reduceLT,zCa,aOp,Nat.reduceEqDiff,zB,aUn,reduceCtorEq,zFr,place,zTu,Nat.reduceAdd,Nat.reduceLeDiff,zRe,Int.reduceEq,Int.reduceLT,Int.reduceLE]
 rw [←ha]
 exact hQ _ _ (fun h=>absurd ha h) (fun _=>⟨_,hB.best,built_in hB hA⟩)
theorem best_in [OB] (hn:NetIn H pp pl P L) (hs:Sl H encS 3 ps s) (hsl:s.length<2 ^ 63) (hLl:validN P L=0→L.length≤8) (ha:zAn P L s to dl=0):BestC s (zCc L to dl) to dl (cutT s (zCc L to dl) to dl) (mostN s (zCc L to dl) to dl)∧∀p t,cutT s (zCc L to dl) to dl p=some t→0≤t∧t≤maxTime∧p∈P:=by
 have:∃v T,BestC s (zCc L to dl) to dl T v∧∀p t,T p=some t→0≤t∧t≤maxTime∧p∈P:=Ret.out (most_run (R:=fun _ _=>∃v T,BestC s (zCc L to dl) to dl T v∧∀p t,T p=some t→0≤t∧t≤maxTime∧p∈P) (cp:=0) (cl:=0) (cs:=0) hn hs hsl hLl fun v G _ h=>⟨v,h ha⟩)
 obtain ⟨v,T,h,h2⟩:=this
 exact ⟨mostN_of h,by rw [←(mostN_eq h).2];exact h2⟩
theorem best_ex [OB] (hn:NetIn H pp pl P L) (hs:Sl H encS 3 ps s) (hsl:s.length<2 ^ 63) (hLl:validN P L=0→L.length≤8) (ha:zAn P L s to dl=0):BestC s (zCc L to dl) to dl (cutT s (zCc L to dl) to dl) (mostN s (zCc L to dl) to dl):=(best_in hn hs hsl hLl ha).1
theorem most_ok [OB] {mp:Bool} {lim:Nat} {Q:Value→zH→Prop} (hn:NetIn H pp pl P L) (hs:Sl H encS 3 ps s) (hsl:s.length<2 ^ 63) (hLl:validN P L=0→L.length≤8) :
  CallR E mp lim 15 [.agg (netV pp P.length cp pl L.length cl).toArray,.slice ps s.length cs,.int .i64 to,.int .i64 dl] H Q=Q (.tuple #[.int .i64 (mostA P L s to dl),.int .i64 (zAn P L s to dl)]) H:=by
 refine pc (by decide) e15 rfl rfl (most_run hn hs hsl hLl fun v G h1 h2=>?_)
 unfold mostA
 by_cases ha:zAn P L s to dl=0
 ·obtain ⟨T,hT,_⟩:=h2 ha
  rw [if_pos ha,(mostN_eq hT).1]
 ·rw [if_neg ha,h1 ha]
end
end Go.Proofs.Ytohnaffmcjbpoaa.Fn

namespace Go.Flow
open Go.AM Go.Net
structure Ld where
 leg:Int
 dep:Int
 arr:Int
 gr:Int
 deriving DecidableEq,Inhabited
def ldLt (a b:Ld):Prop:=a.dep<b.dep∨a.dep=b.dep∧a.leg<b.leg
instance (a b:Ld):Decidable (ldLt a b):=by unfold ldLt;infer_instance
def ldOf (c:Leg×Int):Ld:=⟨c.1.id,c.2,c.2+c.1.mins,c.1.grams⟩
def outB (T:Int→Option Int) (c:Leg×Int):Bool:=!late T c.1.frm (c.2-c.1.cut)&&late T c.1.dst (c.2+c.1.mins)
def cutL (T:Int→Option Int) (C:List (Leg×Int)):List Ld:=(C.filter (outB T)).map ldOf
theorem ldLt_total {a b:Ld} (h1:¬ldLt a b) (h2:¬ldLt b a):a.dep=b.dep∧a.leg=b.leg:=by
 unfold ldLt at *;omega
theorem sorted_uniq:∀{a b:List Ld},a.Perm b→a.Pairwise (fun x y=>¬ldLt y x)→b.Pairwise (fun x y=>¬ldLt y x)→(∀x∈a,∀y∈a,x.dep=y.dep→x.leg=y.leg→x=y)→a=b
 | [],b,h,_,_,_=>h.nil_eq
 | x::a,[],h,_,_,_=>absurd h.length_eq (by simp)
 | x::a,y::b,h,h1,h2,hx=>by
   obtain ⟨p1,p2⟩:=List.pairwise_cons.1 h1
   obtain ⟨q1,q2⟩:=List.pairwise_cons.1 h2
   have e:x=y:=by
    rcases List.mem_cons.1 (h.mem_iff.1 List.mem_cons_self) with e | hm
    ·exact e
    rcases List.mem_cons.1 (h.mem_iff.2 (List.mem_cons_self (a:=y))) with e | hm2
    ·exact e.symm
    obtain ⟨e1,e2⟩:=ldLt_total (q1 x hm) (p1 y hm2)
    exact (hx y (List.mem_cons_of_mem _ hm2) x List.mem_cons_self e1.symm e2.symm).symm
   subst e
   rw [sorted_uniq ((List.perm_cons x).1 h) p2 q2 fun y hy z hz=>hx y (List.mem_cons_of_mem _ hy) z (List.mem_cons_of_mem _ hz)]
end Go.Flow
namespace Go.Proofs.Ytohnaffmcjbpoaa.Fn
open Go.AM Go.AM.Sym Go.Net Go.Flow Go.Sort
def encD (x:Flow.Ld):List Value:=[.int .i64 x.leg,.int .i64 x.dep,.int .i64 x.arr,.int .i64 x.gr]
theorem zDl (x:Flow.Ld):(encD x).length=4:=id rfl
theorem encD_0 {x:Flow.Ld}:(encD x)[0]? = some (.int .i64 x.leg):=id rfl
theorem encD_1 {x:Flow.Ld}:(encD x)[1]? = some (.int .i64 x.dep):=id rfl
theorem encD_2 {x:Flow.Ld}:(encD x)[2]? = some (.int .i64 x.arr):=id rfl
theorem encD_3 {x:Flow.Ld}:(encD x)[3]? = some (.int .i64 x.gr):=id rfl
instance sortL [OB]:Srt.SortAt E zL:=⟨rfl,kn rfl rfl (by decide),kn rfl rfl (by decide),kn rfl rfl (by decide),kn rfl rfl (by decide),kn rfl rfl (by decide),kn rfl rfl (by decide),kn rfl rfl (by decide),kn rfl rfl (by decide),kn rfl rfl (by decide),kn rfl rfl (by decide),kn rfl rfl (by decide),kn rfl rfl (by decide),kn rfl rfl (by decide),kn rfl rfl (by decide),kn rfl rfl (by decide),kn rfl rfl (by decide),kn rfl rfl (by decide),kn rfl rfl (by decide)⟩
instance encDL:Srt.EncOk encD zL:=⟨fun _=>rfl⟩
def cmpD (a b:Flow.Ld):Int:=orL [cmpI a.dep b.dep,cmpI a.leg b.leg]
theorem compare_ok [OB] (mp:Bool) (lim:Nat) (a b:Flow.Ld) (H:zH) (Q:Value→zH→Prop):CallR E mp lim 28 [.agg (encD a).toArray,.agg (encD b).toArray] H Q=Q (.int .i64 (cmpD a b)) H:=by
 refine pc (by decide) e28 rfl rfl ?_
 rw [b28,c28]
 simp only [n28,r28,encD,cmp_ok,or_lit,isCells_cells,cellsOf_cells,intsOf_cons,intsOf_nil,okInts_cons,okInts_nil,Nat.reducePow,SB,Nat.reduceLT,zCa,aOp,Nat.reduceEqDiff,zB,aUn,reduceCtorEq,zFr,place,zTu,Nat.reduceAdd,Nat.reduceLeDiff,zRe,Int.reduceEq,Int.reduceLT,Int.reduceLE]
 rfl
theorem cmpD_neg {a b:Flow.Ld}:cmpD a b<0↔ldLt a b:=by
 have e0:cmpD a b=if cmpI a.dep b.dep≠0 then cmpI a.dep b.dep else if cmpI a.leg b.leg≠0 then cmpI a.leg b.leg else 0:=rfl
 rw [e0]
 unfold ldLt
 rcases Int.lt_trichotomy a.dep b.dep with h | h | h
 ·rw [cmpI_1 h];simp [h]
 ·rw [cmpI_0 h]
  rcases Int.lt_trichotomy a.leg b.leg with h2 | h2 | h2
  ·rw [cmpI_1 h2];simp [h,h2]
  ·rw [cmpI_0 h2];simp [h,h2]
  ·rw [cmpI_2 h2];simp [h];omega
 ·rw [cmpI_2 h];simp;omega
theorem cmpD_lt {a b:Flow.Ld}:Srt.ltC cmpD a b=decide (ldLt a b):=by
 unfold Srt.ltC
 rw [Bool.eq_iff_iff,decide_eq_true_eq,decide_eq_true_eq]
 exact cmpD_neg
theorem cmpD_swo:SWO (Srt.ltC cmpD):=by
 refine ⟨fun x=>?_,fun x y z h1 h2=>?_,fun x y z h1 h2=>?_⟩
 ·rw [cmpD_lt];simp [ldLt]
 ·rw [cmpD_lt,decide_eq_true_eq] at h1 h2⊢
  unfold ldLt at *;omega
 ·rw [cmpD_lt,decide_eq_false_iff_not] at h1 h2⊢
  unfold ldLt at *;omega
theorem sortG_ok [OB] {α:Type} [Inhabited α] {enc:α→List Value} {iz:Srt.Ids} {c:α→α→Int} {cl:FuncId} {lim cp:Nat} {pp:Option Addr} {lo:Nat} {PL:List α} {G:zH} {Q:Value→zH→Prop} [Srt.SortAt E iz] [Srt.EncOk enc iz] (hc:∀(mp:Bool) (lim:Nat) (x y:α) (H:zH) (Q:Value→zH→Prop),CallR E mp lim cl [.agg (enc x).toArray,.agg (enc y).toArray] H Q=Q (.int .i64 (c x y)) H) (hS:SWO (Srt.ltC c)) (hO:Own lo G enc iz.e pp cp PL) (hlo:lim≤lo) (hn:PL.length<65536)
  (hQ:∀G' SL,Own lo G' enc iz.e pp cp SL→SL.Perm PL→SL.Pairwise (fun x y=>Srt.ltC c y x=false)→(∀b,b<G.length→b∉opB pp→zG G' b=zG G b)→G.length≤G'.length→Q (.tuple #[]) G') :
  CallR E false lim iz.SORT [.slice pp PL.length cp,.func (.func cl) #[] #[]] G Q:=by
 rcases hO with ⟨h0,rfl,rfl⟩ | ⟨R,rfl,rfl,hR,hRl⟩
 ·subst h0
  have hs:CallR E false lim iz.SORT [.slice none 0 0,.func (.func cl) #[] #[]] G Q=Q (.tuple #[]) G:=Srt.sort_nil (iz:=iz) (cs:=[])
  rw [List.length_nil,hs]
  exact hQ G [] .nil (List.Perm.refl _) List.Pairwise.nil (fun _ _ _=>rfl) (Nat.le_refl _)
 ·obtain ⟨d,Y,h1,h2,h3,h4⟩:=Srt.sort_ok (E:=E) (iz:=iz) (enc:=enc) (X:=[]) (G:=G) (B:=R) (lim:=lim) (cap:=loose iz.e) (n:=PL.length) (p:=some ⟨R,0,none⟩) (c:=c) (cl:=cl) (cs:=[]) rfl (zHa hR) (by omega) (by omega) (fun mp lim x y H Q=>hc mp lim x y H Q) hS (by omega) (d:=PL.toArray) (by simp)
  rw [DH_sameG hR] at h4
  have hp:d.toList.Perm PL:=perm_listG (d:=PL.toArray) (n:=PL.length) (by simp) h2
  simp only [List.nil_append,List.append_nil] at h4
  have h4':CallR E false lim iz.SORT [.slice (some ⟨R,0,none⟩) PL.length (loose iz.e),.func (.func cl) #[] #[]] G Q=Q (.tuple #[]) (DH enc G R d++Y):=h4 Q
  rw [h4']
  have hRl':=zHa hR
  have hm:Mut G (DH enc G R d) R:=⟨by simp [DH],fun j hj=>zHs hj⟩
  refine hQ _ d.toList (.inr ⟨R,rfl,rfl, ?_,hRl⟩) hp ?_ (fun b hb hn=>?_) (by have:=hm.len;simp;omega)
  ·rw [zHo (by have:=hm.len;omega)]
   have:=DH_get (X:=[]) (enc:=enc) (d:=d) hRl'
   rw [List.append_nil] at this
   exact this
  ·rw [List.pairwise_iff_getElem]
   intro i j hi hj hij
   have q1:=h3 i j (Nat.zero_le _) hij (by simpa [h1] using hj)
   have e1:d[i]! = d.toList[i]:=by rw [getElem!_pos d i (by simpa using hi)];simp
   have e2:d[j]! = d.toList[j]:=by rw [getElem!_pos d j (by simpa using hj)];simp
   rw [e1,e2] at q1
   exact q1
  ·rw [zHo (by have:=hm.len;omega)]
   exact hm.other b fun e=>hn (zOm.2 ⟨_,rfl,e.symm⟩)
theorem sortL_ok [OB] {lim cp:Nat} {pp:Option Addr} {lo:Nat} {PL:List Flow.Ld} {G:zH} {Q:Value→zH→Prop} (hO:Own lo G encD 4 pp cp PL) (hlo:lim≤lo) (hn:PL.length<65536)
  (hQ:∀G' SL,Own lo G' encD 4 pp cp SL→SL.Perm PL→SL.Pairwise (fun x y=>¬ldLt y x)→(∀b,b<G.length→b∉opB pp→zG G' b=zG G b)→G.length≤G'.length→Q (.tuple #[]) G') :
  CallR E false lim 37 [.slice pp PL.length cp,.func (.func 28) #[] #[]] G Q:=
 sortG_ok (iz:=zL) compare_ok cmpD_swo hO hlo hn fun G' SL h1 h2 h3 h4 h5=>hQ G' SL h1 h2 (h3.imp fun h=>by rw [cmpD_lt,decide_eq_false_iff_not] at h;exact h) h4 h5
def kI (k:Int):Value:=.int .i64 k
theorem kI_eq:KeyEq kI:=fun a b=>by
 simp only [kI,keyEq,if_true,Option.some.injEq]
 by_cases h:a=b<;>simp [h]
theorem kI_ok {k:Int}:keyOk (.int .i64) (.int .i64 k)=true:=by simp [keyOk]
theorem fkI {p:Int} {es:List (Int×Int)}:findKey (.int .i64 p) (encM kI vI es) 0=some ((fk p es 0).map fun x=>(x.1,.int .i64 x.2)):=findKey_enc (vv:=vI) kI_eq p es 0
end Go.Proofs.Ytohnaffmcjbpoaa.Fn

namespace Go.Flow
open Go.AM Go.Net
theorem firstT_snoc {lv:Nat→Int} {x:Int×Int} {p:Int}:∀{PL:List (Int×Int)} {i:Nat},firstT lv (PL++[x]) i p=match firstT lv PL i p with | some t=>some t | none=>if x.1=p∧0≤lv (i+PL.length) then some x.2 else none
 | [],i=>by simp [firstT]
 | y::PL,i=>by
   rw [List.cons_append]
   unfold firstT
   by_cases h:y.1=p∧0≤lv i
   ·rw [if_pos h,if_pos h]
   ·rw [if_neg h,if_neg h,firstT_snoc,List.length_cons,show i+1+PL.length=i+(PL.length+1) by omega]
end Go.Flow
namespace Go.Proofs.Ytohnaffmcjbpoaa.Fn
open Go.AM Go.AM.Sym Go.Net Go.Flow
structure BQ (fr:Nat→Value) (B4 B8 A R:Nat):Prop where
 f4:fr 4=.pointer (some ⟨B4,0,none⟩)
 f8:fr 8=.pointer (some ⟨B8,0,none⟩)
 f11:fr 11=.pointer (some ⟨A,0,none⟩)
 f12:fr 12=.map (some R)
theorem map_alive {G:zH} {R:Nat} {es:List (Value×Value)} (h:zG G R=.map es):R<G.length:=by
 rcases Nat.lt_or_ge R G.length with h1 | h1
 ·exact h1
 ·unfold zG at h;rw [List.getD_eq_getElem?_getD,List.getElem?_eq_none h1] at h;cases h
theorem from_ok [OB] {lim A R B4 B8 Lb cp cv:Nat} {G:zH} {fr:Nat→Value} {pp:Option Addr} {SL:List (Int×Int)} {Lv:List Int} {v1 v2 v3 v5 v6 v7:Value} {K:List zAi} {Q:Value→zH→Prop}
  (hf:BQ fr B4 B8 A R) (hA:zG G A=.cells false [.slice pp SL.length cp,v1,v2,v3,.slice (some ⟨Lb,0,none⟩) Lv.length cv,v5,v6,v7]) (sp:Sl G enc2 2 pp SL) (hL:zG G Lb=.cells false (Lv.flatMap encI)) (ll:Lv.length=SL.length+2) (hsl:SL.length<2 ^ 40) (hR:zG G R=.map []) (hlR:lim≤R)
  (f50:fr 50=.slice pp SL.length cp) (f51:fr 51=.int .i64 (SL.length:Int)) (f52:fr 52=.int .i64 0)
  (hK:∀fr' G' es,BQ fr' B4 B8 A R→(∀p,getK p es=firstT (lvF Lv) SL 2 p)→zG G' R=.map (encM kI vI es)→Chg [R] G G'→Ret E a17 lim K fr' G' Q) :
  Ret E a17 lim (.code (.loop l17_3)::.inBlock 0::K) fr G Q:=by
 refine zRr (fun z:Nat×List (Int×Int)=>SL.length-z.1) (fun z fr G'=>z.1≤SL.length∧BQ fr B4 B8 A R∧fr 50=.slice pp SL.length cp∧fr 51=.int .i64 (SL.length:Int)∧fr 52=.int .i64 (z.1:Int)∧(∀p,getK p z.2=firstT (lvF Lv) (SL.take z.1) 2 p)∧zG G' R=.map (encM kI vI z.2)∧Chg [R] G G') (0,[])
  ⟨Nat.zero_le _,hf,f50,f51,f52,fun p=>rfl,hR,Chg.refl⟩ ?_
 rintro ⟨j,es⟩ fr G' ⟨hj,hf,f50,f51,f52,hes,hR',hC⟩ hN
 simp only at hj f52 hes hR'
 obtain ⟨f4,f8,f11,f12⟩:=hf
 rw [zRc l17_3.eq_1]
 refine zRp ?_
 by_cases hlt:j<SL.length
 case neg=>
  obtain rfl:j=SL.length:=by omega
  rw [List.take_length] at hes
  simp only [n17,r17,f50,f51,f52,hlt,SB,Nat.reduceLT,zCa,aOp,Nat.reduceEqDiff,zB,aUn,reduceCtorEq,zFr,place,zTu,Nat.reduceAdd,Nat.reduceLeDiff,zRe,Int.reduceEq,Int.reduceLT,Int.reduceLE]
  refine hK _ _ es ⟨(by exact f4),(by exact f8),(by exact f11),(by exact f12)⟩ hes ?_ hC.app
  rw [List.append_nil];exact hR'
 have nA:A∉[R]:=by
  rw [List.mem_singleton]
  intro e;rw [e,hR] at hA;cases hA
 have nL:Lb∉[R]:=by
  rw [List.mem_singleton]
  intro e;rw [e,hR] at hL;cases hL
 have sp':Sl G' enc2 2 pp SL:=hC.sl sp fun a ha hn=>by
  rw [List.mem_singleton]
  intro e
  rw [ha] at sp
  obtain ⟨ro,c,k1,_⟩:=sp.2 hn
  rw [e,hR] at k1;cases k1
 have lS:=fun Z=>(sp'.app Z).loadCells z2l hlt
 have xS:=ix_N sp' hlt rfl
 have sL:Sl G' encI 1 (some ⟨Lb,0,none⟩) Lv:=Sl.row (ro:=false) zIl (hC.cells hL nL)
 have lL:=ld_ints (i:=j+2) sL (by omega)
 rw [lvF_gt (by omega)] at lL
 have xL:=ix_ints (i:=j+2) sL (by omega) rfl
 have kA:=fun Z=>(Ext.refl.app (X:=Z)).cells (hC.cells hA nA)
 have hRl:=map_alive hR'
 have kR:∀Z,zG (G'++Z) R=.map (encM kI vI es):=fun Z=>by rw [zHo hRl];exact hR'
 have w1:IntKind.i64.wrap ((j:Int)+1)=((j+1:Nat):Int):=zWn (by omega)
 have w2:IntKind.i64.wrap ((j:Int)+2)=((j+2:Nat):Int):=by rw [zWi (by omega) (by omega)];omega
 have hfk:=fkI (p:=(gt SL j).1) (es:=es)
 have hgk:=fk_get (gt SL j).1 es 0
 have hlG:lim≤G'.length:=by omega
 have et:∀p,firstT (lvF Lv) (SL.take (j+1)) 2 p=match getK p es with | some t=>some t | none=>if (gt SL j).1=p∧0≤lvF Lv (j+2) then some (gt SL j).2 else none:=fun p=>by
  rw [take_snoc hlt,firstT_snoc,←hes p,List.length_take,Nat.min_eq_left hj,Nat.add_comm 2 j]
 cases hc:fk (gt SL j).1 es 0 with
 | some x=>
   obtain ⟨i,v⟩:=x
   rw [hc] at hfk hgk
   simp only [Option.map_some] at hfk hgk
   simp only [n17,r17,f4,f8,f11,f12,f50,f51,f52,hlt,lS,xS,lL,xL,kA,kR,w1,w2,kI_ok,enc2,zSa,hlG,hfk,SB,Nat.reduceLT,zCa,aOp,Nat.reduceEqDiff,zB,aUn,reduceCtorEq,zFr,place,zTu,Nat.reduceAdd,Nat.reduceLeDiff,zRe,Int.reduceEq,Int.reduceLT,Int.reduceLE]
   refine hN (j+1,es) _ _ ⟨by show j+1≤_;omega,⟨(by exact f4),(by exact f8),(by exact f11),(by exact f12)⟩,(by exact f50),(by exact f51),(by rfl),fun p=>?_,by rw [zHo hRl];exact hR',hC.app⟩ (by show SL.length-(j+1)<SL.length-j;omega)
   rw [et]
   cases hp:getK p es with
   | some t=>rfl
   | none=>
     rw [if_neg fun hh=>by rw [hh.1,hp] at hgk;cases hgk]
 | none=>
   rw [hc] at hfk hgk
   simp only [Option.map_none] at hfk hgk
   by_cases hg:0≤lvF Lv (j+2)
   ·obtain ⟨G2,e2,k2,m2⟩:=mut_set hRl (.map (encM kI vI es++[(.int .i64 (gt SL j).1,.int .i64 (gt SL j).2)]))
    simp only [n17,r17,f4,f8,f11,f12,f50,f51,f52,hlt,lS,xS,lL,xL,kA,kR,w1,w2,kI_ok,enc2,zSa,hlG,hfk,eq_true hg,hlR,e2,SB,Nat.reduceLT,zCa,aOp,Nat.reduceEqDiff,zB,aUn,reduceCtorEq,zFr,place,zTu,Nat.reduceAdd,Nat.reduceLeDiff,zRe,Int.reduceEq,Int.reduceLT,Int.reduceLE]
    refine hN (j+1,es++[(gt SL j)]) _ _ ⟨by show j+1≤_;omega,⟨(by exact f4),(by exact f8),(by exact f11),(by exact f12)⟩,(by exact f50),(by exact f51),(by rfl),fun p=>?_, ?_,(hC.mut m2 (.inl (by simp))).app⟩ (by show SL.length-(j+1)<SL.length-j;omega)
    ·rw [et]
     have e5:es++[(gt SL j)]=putK (gt SL j).1 (gt SL j).2 es:=fk_none hc
     show getK p (es++[(gt SL j)])=_
     rw [e5,getK_put]
     by_cases hp:p=(gt SL j).1
     ·subst hp
      rw [if_pos rfl,←hgk]
      simp [hg]
     ·rw [if_neg hp]
      cases getK p es with
      | some t=>rfl
      | none=>simp only;rw [if_neg fun hh=>hp hh.1.symm]
    ·rw [zHo (by have:=m2.len;omega),k2]
     unfold encM
     rw [List.map_append];rfl
   ·simp only [n17,r17,f4,f8,f11,f12,f50,f51,f52,hlt,lS,xS,lL,xL,kA,kR,w1,w2,kI_ok,enc2,zSa,hlG,hfk,eq_false hg,SB,Nat.reduceLT,zCa,aOp,Nat.reduceEqDiff,zB,aUn,reduceCtorEq,zFr,place,zTu,Nat.reduceAdd,Nat.reduceLeDiff,zRe,Int.reduceEq,Int.reduceLT,Int.reduceLE]
    refine hN (j+1,es) _ _ ⟨by show j+1≤_;omega,⟨(by exact f4),(by exact f8),(by exact f11),(by exact f12)⟩,(by exact f50),(by exact f51),(by rfl),fun p=>?_,by rw [zHo hRl];exact hR',hC.app⟩ (by show SL.length-(j+1)<SL.length-j;omega)
    rw [et]
    cases hp:getK p es with
    | some t=>rfl
    | none=>rw [if_neg fun hh=>hg hh.2]
def timesT (T:Int→Option Int) (P:List Int):List Int:=P.map fun p=>(T p).getD (-1)
theorem times_ok [OB] {lim A R B4 B8 Bc cp2:Nat} {G:zH} {fr:Nat→Value} {pp:Option Addr} {P:List Int} {es:List (Int×Int)} {T:Int→Option Int} {K:List zAi} {Q:Value→zH→Prop}
  (hf:BQ fr B4 B8 A R) (sp:Sl G encI 1 pp P) (hp:P.length<2 ^ 40) (hR:zG G R=.map (encM kI vI es)) (hes:∀p,getK p es=T p) (f17:fr 17=.pointer (some ⟨Bc,0,none⟩)) (hB:zG G Bc=.cells false [.slice none 0 0,.slice none 0 0]) (hlB:lim≤Bc)
  (f84:fr 84=.slice pp P.length cp2) (f85:fr 85=.int .i64 (P.length:Int)) (f86:fr 86=.int .i64 0)
  (hK:∀fr' G' p' c',BQ fr' B4 B8 A R→fr' 17=.pointer (some ⟨Bc,0,none⟩)→Own G.length G' encI 1 p' c' (timesT T P)→zG G' Bc=.cells false [.slice p' P.length c',.slice none 0 0]→Chg [Bc] G G'→Ret E a17 lim K fr' G' Q) :
  Ret E a17 lim (.code (.loop l17_2)::.inBlock 2::K) fr G Q:=by
 have hBl:=zHa hB
 refine zRr (fun z:Nat×Option Addr×Nat=>P.length-z.1) (fun z fr G'=>z.1≤P.length∧BQ fr B4 B8 A R∧fr 17=.pointer (some ⟨Bc,0,none⟩)∧fr 84=.slice pp P.length cp2∧fr 85=.int .i64 (P.length:Int)∧fr 86=.int .i64 (z.1:Int)∧Own G.length G' encI 1 z.2.1 z.2.2 (timesT T (P.take z.1))∧zG G' Bc=.cells false [.slice z.2.1 z.1 z.2.2,.slice none 0 0]∧Chg [Bc] G G') (0,none,0)
  ⟨Nat.zero_le _,hf,f17,f84,f85,f86,.nil,hB,Chg.refl⟩ ?_
 rintro ⟨j,p1,c1⟩ fr G' ⟨hj,hf,f17,f84,f85,f86,hO,hB',hC⟩ hN
 simp only at hj f86 hO hB'
 obtain ⟨f4,f8,f11,f12⟩:=hf
 rw [zRc l17_2.eq_1]
 refine zRp ?_
 by_cases hlt:j<P.length
 case neg=>
  obtain rfl:j=P.length:=by omega
  rw [List.take_length] at hO
  simp only [n17,r17,f84,f85,f86,hlt,SB,Nat.reduceLT,zCa,aOp,Nat.reduceEqDiff,zB,aUn,reduceCtorEq,zFr,place,zTu,Nat.reduceAdd,Nat.reduceLeDiff,zRe,Int.reduceEq,Int.reduceLT,Int.reduceLE]
  refine hK _ _ p1 c1 ⟨(by exact f4),(by exact f8),(by exact f11),(by exact f12)⟩ (by exact f17) (hO.app _) ?_ hC.app
  rw [List.append_nil];exact hB'
 have sp':Sl G' encI 1 pp P:=hC.sl sp fun a ha hn=>by
  rw [List.mem_singleton]
  intro e
  rw [ha] at sp
  obtain ⟨ro,c,k1,k2,k3⟩:=sp.2 hn
  rw [e,hB] at k1
  injection k1 with _ k1
  subst k1
  cases P with
  | nil=>simp at hn
  | cons x P=>
    rw [List.flatMap_cons] at k3
    simp only [List.length_cons,Nat.mul_one,encI,List.cons_append,List.nil_append] at k3 k2
    match h0:a.off with
    | 0=>rw [h0] at k3;cases k3
    | 1=>rw [h0] at k3;cases k3
    | n+2=>rw [h0] at k2;simp at k2;omega
 have lP:=ld_ints sp' hlt
 have xP:=ix_ints sp' hlt rfl
 have hRB:R≠Bc:=fun e=>by rw [e,hB] at hR;cases hR
 have hRl:=map_alive hR
 have hRl':R<G'.length:=by have:=hC.len;omega
 have kR:∀Z,zG (G'++Z) R=.map (encM kI vI es):=fun Z=>by rw [zHo hRl',hC.other R hRl (by rw [List.mem_singleton];exact hRB)];exact hR
 have w1:IntKind.i64.wrap ((j:Int)+1)=((j+1:Nat):Int):=zWn (by omega)
 have hfk:=fkI (p:=gt P j) (es:=es)
 have hgk:=fk_get (gt P j) es 0
 rw [hes] at hgk
 have hlen:(timesT T (P.take j)).length=j:=by unfold timesT;rw [List.length_map,List.length_take];omega
 have et:timesT T (P.take (j+1))=timesT T (P.take j)++[(T (gt P j)).getD (-1)]:=by unfold timesT;rw [take_snoc hlt,List.map_append];rfl
 have hlG:lim≤G'.length:=by have:=hC.len;omega
 have hGl:=hC.len
 have kB:=fun Z=>(Ext.refl.app (X:=Z)).cells hB'
 obtain ⟨tv,htv⟩:∃tv,tv=(T (gt P j)).getD (-1):=⟨_,rfl⟩
 obtain ⟨G2,e2,O2,C2,K2,hl2,_⟩:=hO.step (lim':=lim) (bytes:=8) (by have:=zHa hB;omega) zIl (by decide) tv (by rw [hlen];unfold maxBytes;omega) (by rw [hlen];omega) hGl [.cells false [.int .i64 tv]] G'.length 1 (by rw [zHn];rfl)
 rw [hlen] at e2
 simp only [List.length_cons,List.length_nil,Nat.zero_add,List.append_nil] at e2 O2 K2
 have kB2:zG G2 Bc=.cells false [.slice p1 j c1,.slice none 0 0]:=(K2 Bc (zHa hB') fun a ha=>by have:=(hO.block ha).1;omega).trans hB'
 obtain ⟨G3,e3,k3,m3⟩:=mut_set (zHa kB2) (.cells false [.slice (some ⟨G'.length+1,0,none⟩) (j+1) (loose 1),.slice none 0 0])
 have kB2X:=fun Z=>(Ext.refl.app (X:=Z)).cells kB2
 have e2':zAa lim none 1 8 false (.slice p1 j c1) (.slice (some ⟨G'.length,0,none⟩) 1 1) (G'++[.cells false [.int .i64 tv]])=some (.slice (some ⟨G'.length+1,0,none⟩) (j+1) (loose 1),G2++[]):=by rw [List.append_nil];exact e2
 cases hc:fk (gt P j) es 0 with
 | some x=>
   obtain ⟨i,v⟩:=x
   rw [hc] at hfk hgk
   simp only [Option.map_some] at hfk hgk
   have hv:v=tv:=by rw [htv,←hgk];rfl
   rw [hv] at hfk
   simp only [n17,r17,f4,f8,f11,f12,f17,f84,f85,f86,hlt,lP,xP,kR,w1,kI_ok,hlG,kB,hfk,e2',kB2X,e3,hlB,SB,Nat.reduceLT,zCa,aOp,Nat.reduceEqDiff,zB,aUn,reduceCtorEq,zFr,place,zTu,Nat.reduceAdd,Nat.reduceLeDiff,zRe,Int.reduceEq,Int.reduceLT,Int.reduceLE]
   exact hN (j+1,some ⟨G'.length+1,0,none⟩,loose 1) _ _ ⟨by show j+1≤_;omega,⟨(by exact f4),(by exact f8),(by exact f11),(by exact f12)⟩,(by exact f17),(by exact f84),(by exact f85),(by rfl),by rw [et,←htv];exact (O2.mut m3 fun a ha e=>by cases ha;simp only at e;have:=zHa hB';omega).app _,by rw [List.append_nil];exact k3,(((C2 [Bc] G (by omega) hC).mut (by rw [List.append_nil];exact m3) (.inl (by simp)))).app⟩ (by show P.length-(j+1)<P.length-j;omega)
 | none=>
   rw [hc] at hfk hgk
   simp only [Option.map_none] at hfk hgk
   have hv:tv=-1:=by rw [htv,←hgk];rfl
   rw [hv] at e2'
   simp only [n17,r17,f4,f8,f11,f12,f17,f84,f85,f86,hlt,lP,xP,kR,w1,kI_ok,hlG,kB,hfk,e2',kB2X,e3,hlB,SB,Nat.reduceLT,zCa,aOp,Nat.reduceEqDiff,zB,aUn,reduceCtorEq,zFr,place,zTu,Nat.reduceAdd,Nat.reduceLeDiff,zRe,Int.reduceEq,Int.reduceLT,Int.reduceLE]
   exact hN (j+1,some ⟨G'.length+1,0,none⟩,loose 1) _ _ ⟨by show j+1≤_;omega,⟨(by exact f4),(by exact f8),(by exact f11),(by exact f12)⟩,(by exact f17),(by exact f84),(by exact f85),(by rfl),by rw [et,←htv];exact (O2.mut m3 fun a ha e=>by cases ha;simp only at e;have:=zHa hB';omega).app _,by rw [List.append_nil];exact k3,(((C2 [Bc] G (by omega) hC).mut (by rw [List.append_nil];exact m3) (.inl (by simp)))).app⟩ (by show P.length-(j+1)<P.length-j;omega)
end Go.Proofs.Ytohnaffmcjbpoaa.Fn

