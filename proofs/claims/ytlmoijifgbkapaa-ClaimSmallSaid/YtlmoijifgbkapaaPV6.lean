/-
  Joined texts, 6 of 7. A part of the claim that the last text states.
-/
import Derived.Test.YtlmoijifgbkapaaPV5
set_option linter.unusedVariables false
set_option linter.unusedSimpArgs false
set_option linter.defProp false
set_option linter.unusedSectionVars false
set_option maxRecDepth 100000
set_option maxHeartbeats 4000000
namespace Go.Proofs.Ytlmoijifgbkapaa.Fn
open Go.AM Go.AM.Sym
theorem Lt_irrefl (a:Clm):¬Lt a a:=by unfold Lt;omega
theorem Lt_trans {a b c:Clm} (h1:Lt a b) (h2:Lt b c):Lt a c:=by unfold Lt at *;omega
def pick (r:List Clm):Nat→Nat
 | 0=>0
 | j+1=>if j=0 then 0 else if (gt r j).tm<(gt r (pick r j)).tm∨(gt r j).tm=(gt r (pick r j)).tm∧(gt r j).id<(gt r (pick r j)).id then j else pick r j
theorem pick_lt (r:List Clm):∀j,0<j→pick r j<j
 | 1,_=>by simp [pick]
 | j+2,_=>by
   rw [pick,if_neg (by omega)]
   split
   ·omega
   ·have:=pick_lt r (j+1) (by omega);omega
theorem pick_least (r:List Clm):∀j,0<j→∀i,i<j→¬Lt (gt r i) (gt r (pick r j))
 | 1,_,i,hi=>by
   obtain rfl:i=0:=by omega
   exact Lt_irrefl _
 | j+2,_,i,hi=>by
   have ih:=pick_least r (j+1) (by omega)
   rw [pick,if_neg (by omega)]
   split
   ·rename_i h
    by_cases e:i=j+1
    ·subst e;exact Lt_irrefl _
    ·intro h2;exact ih i (by omega) (Lt_trans h2 h)
   ·rename_i h
    by_cases e:i=j+1
    ·subst e;exact h
    ·exact ih i (by omega)
theorem pick_step {r:List Clm} {j:Nat} (hj:0<j):pick r (j+1)=if (gt r j).tm<(gt r (pick r j)).tm∨(gt r j).tm=(gt r (pick r j)).tm∧(gt r j).id<(gt r (pick r j)).id then j else pick r j:=by
 rw [pick,if_neg (by omega)]
theorem pick_first {r rest:List Clm} {x:Clm} (hp:r.Perm (x::rest)) (hs:(x::rest).Pairwise Lt):gt r (pick r r.length)=x∧(r.take (pick r r.length)++r.drop (pick r r.length+1)).Perm rest:=by
 have hl:0<r.length:=by rw [hp.length_eq];simp
 have hk:=pick_lt r r.length hl
 have hm:=pick_least r r.length hl
 generalize pick r r.length=k at *
 have hx:gt r k=x:=by
  have h1:gt r k∈x::rest:=hp.subset (gt_mem hk)
  rcases List.mem_cons.1 h1 with h | h
  ·exact h
  ·exfalso
   obtain ⟨i,hi,he⟩:=List.mem_iff_getElem.1 (hp.symm.subset (List.mem_cons_self (a:=x) (l:=rest)))
   rw [List.pairwise_cons] at hs
   have:=hm i hi
   rw [zGl hi,he] at this
   exact this (hs.1 _ h)
 refine ⟨hx, ?_⟩
 have e0:r=r.take k++gt r k::r.drop (k+1):=by rw [zGl hk,←List.drop_eq_getElem_cons hk,List.take_append_drop]
 have h2:(x::(r.take k++r.drop (k+1))).Perm (x::rest):=by
  refine List.Perm.trans ?_ hp
  conv=>rhs;rw [e0,hx]
  exact List.perm_middle.symm
 exact (List.perm_cons x).1 h2
theorem refSettle_bad [OB] {lim:Nat} {pl pt ps pc:Option Addr} {l:List Std} {t:List Trm} {s:List Snt} {c:List Clm} {k1 k2 k3 k4:Nat} {H:zH} (hl:Sl H encS 4 pl l) (ht:Sl H encT 7 pt t) (hs:Sl H encN 6 ps s) (hc:Sl H encC 6 pc c) (nl:l.length<2 ^ 62) (nt:t.length<2 ^ 62) (ns:s.length<2 ^ 62) (nc:c.length<2 ^ 62) (ul:∀x∈l,0≤x.cls) (ut:∀x∈t,0≤x.cls) (us:∀x∈s,0≤x.cls) (uc:∀x∈c,0≤x.kind∧x.kind<256) (h0:¬checkS l t s c=0) {Q:Value→zH→Prop}:CallR E false lim 46 [.slice pl l.length k1,.slice pt t.length k2,.slice ps s.length k3,.slice pc c.length k4] H Q=Q (.tuple #[.slice none 0 0,.int .i64 (checkS l t s c)]) H:=by
 refine runs (by decide) e46 rfl ?_
 rw [b46,c46]
 refine zRp ?_
 have hck:=fun mp lim X Q=>refCheck_ok (mp:=mp) (lim:=lim) (k1:=k1) (k2:=k2) (k3:=k3) (k4:=k4) (Q:=Q) (hl.app X) (ht.app X) (hs.app X) (hc.app X) nl nt ns nc ul ut us uc
 simp only [n46,r46,hck,h0,SB,seval,zCa,aOp,zB,aUn,reduceCtorEq,zFr,place,zTu,zRe]
 exact List.append_nil _
theorem cut_cells {cs:List Value} {r:List Clm} {k:Nat} (hk:k<r.length) (hcs:cs.take (r.length*6)=r.flatMap encC) :
  cs.take (k*6)++(cs.drop ((k+1)*6)).take ((r.length-(k+1))*6)=(r.take k++r.drop (k+1)).flatMap encC:=by
 have h1:cs.take (k*6)=(r.take k).flatMap encC:=by
  have:=congrArg (List.take (k*6)) hcs
  rw [List.take_take,Nat.min_eq_left (by omega)] at this
  rw [this]
  conv=>lhs;rw [←List.take_append_drop k r,List.flatMap_append]
  rw [List.take_left' (by rw [flat_len encC_len,List.length_take];omega)]
 have h2:(cs.drop ((k+1)*6)).take ((r.length-(k+1))*6)=(r.drop (k+1)).flatMap encC:=by
  have:=congrArg (List.drop ((k+1)*6)) hcs
  rw [List.drop_take,show r.length*6-(k+1)*6=(r.length-(k+1))*6 by omega] at this
  rw [this]
  conv=>lhs;rw [←List.take_append_drop (k+1) r,List.flatMap_append]
  rw [List.drop_left' (by rw [flat_len encC_len,List.length_take];omega)]
 rw [h1,h2,List.flatMap_append]
theorem take_cells {cs:List Value} {r:List Clm} {k:Nat} (hk:k≤r.length) (hcs:cs.take (r.length*6)=r.flatMap encC):cs.take (k*6)=(r.take k).flatMap encC:=by
 have:=congrArg (List.take (k*6)) hcs
 rw [List.take_take,Nat.min_eq_left (by omega)] at this
 rw [this]
 conv=>lhs;rw [←List.take_append_drop k r,List.flatMap_append]
 rw [List.take_left' (by rw [flat_len encC_len,List.length_take];omega)]
def Left (lim:Nat) (G:zH) (R:Nat) (r:List Clm):Prop:=∃cs,zG G R=.cells false cs∧lim≤R∧cs.take (r.length*6)=r.flatMap encC∧r.length*6≤cs.length
theorem Left.sl {lim:Nat} {G:zH} {R:Nat} {r:List Clm} (h:Left lim G R r):Sl G encC 6 (some ⟨R,0,none⟩) r:=by
 obtain ⟨cs,h1,_,h3,h4⟩:=h
 exact ⟨rfl,fun _=>⟨false,cs,h1,by simpa using h4,by simpa using h3⟩⟩
theorem refSettle_run [OB] {lim:Nat} {pl pt ps pc:Option Addr} {l:List Std} {t:List Trm} {s:List Snt} {c:List Clm} {k1 k2 k3 k4:Nat} {H:zH} (hl:Sl H encS 4 pl l) (ht:Sl H encT 7 pt t) (hs:Sl H encN 6 ps s) (hc:Sl H encC 6 pc c) (nl:l.length<2 ^ 62) (nt:t.length<2 ^ 62) (ns:s.length<2 ^ 62) (nc:c.length<2 ^ 62) (ul:∀x∈l,0≤x.cls) (ut:∀x∈t,0≤x.cls) (us:∀x∈s,0≤x.cls) (uc:∀x∈c,0≤x.kind∧x.kind<256) (hlim:lim≤H.length) (h0:checkS l t s c=0) (hpn:c≠[]→pc≠none) {d:List Clm} (hp:d.Perm c) (hlt:d.Pairwise Lt) :
  ∃(p:Option Addr) (k:Nat) (Y:zH),Sl (H++Y) encO 3 p (goO l t s [] d)∧∀Q,CallR E false lim 46 [.slice pl l.length k1,.slice pt t.length k2,.slice ps s.length k3,.slice pc c.length k4] H Q=Q (.tuple #[.slice p c.length k,.int .i64 0]) (H++Y):=by
 obtain ⟨r1,r2,r3,r4⟩:=checkS_ok h0
 have hn:c.length≤500:=by
  unfold rightC at r4
  simp only [Bool.and_eq_true,decide_eq_true_eq] at r4
  exact r4.1
 have hck:=fun mp lim X Q=>refCheck_ok (mp:=mp) (lim:=lim) (k1:=k1) (k2:=k2) (k3:=k3) (k4:=k4) (Q:=Q) (hl.app X) (ht.app X) (hs.app X) (hc.app X) nl nt ns nc ul ut us uc
 by_cases hc0:c=[]
 ·subst hc0
  obtain rfl:d=[]:=List.Perm.eq_nil hp
  refine ⟨none,0,[.cells false []],rfl,fun Q=>?_⟩
  refine runs (by decide) e46 rfl ?_
  rw [b46,c46]
  refine zRp ?_
  have happ:∀X,zAa lim none 6 48 false (.slice (some ⟨H.length,0,none⟩) 0 0) (.slice pc 0 k4) (H++X)=some (.slice (some ⟨H.length,0,none⟩) 0 0,H++X):=fun X=>append_none (by decide) (.inl rfl) (by unfold maxBytes;omega) (by decide) (by decide) (by cases pc with | none=>exact .inl rfl | some a=>exact .inr ⟨a,rfl⟩)
  simp only [List.length_nil] at hck
  simp only [n46,r46,hck,h0,happ,SB,seval,zCa,aOp,zB,aUn,reduceCtorEq,zFr,place,zTu,zRe]
  rw [Ret_loop,zRc l46_3.eq_1]
  simp only [n46,r46,SB,seval,zCa,aOp,zB,aUn,reduceCtorEq,zFr,place,zTu,zRe]
 have hcl:0<c.length:=by cases c with | nil=>exact absurd rfl hc0 | cons x c=>simp
 have key:CallR E false lim 46 [.slice pl l.length k1,.slice pt t.length k2,.slice ps s.length k3,.slice pc c.length k4] H (fun v G=>Ext H G∧∃p k,v=.tuple #[.slice p c.length k,.int .i64 0]∧Sl G encO 3 p (goO l t s [] d)):=by
  refine run0 (by decide) e46 rfl ?_
  rw [b46,c46]
  have happ:=fun X=>append_fresh (lim:=lim) (bytes:=48) (c:=k4) (b:=H.length) (H:=H++(.cells false []::X)) (by rw [zHn];rfl) (hc.app _) (hpn hc0) (by omega) (by decide:(6:Nat)≠0) (by unfold maxBytes;omega) (by omega)
  simp only [n46,r46,hck,h0,happ,SB,seval,zCa,aOp,zB,aUn,reduceCtorEq,zFr,place,zTu,zRe]
  refine zRr (fun rest:List Clm=>rest.length) (fun rest fr G=>∃dn r R p12 k12 p13 k13,d=dn++rest∧r.Perm rest∧fr 0=.slice pl l.length k1∧fr 1=.slice pt t.length k2∧fr 2=.slice ps s.length k3∧fr 11=.slice (some ⟨R,0,none⟩) r.length (loose 6)∧fr 12=.slice p12 dn.length k12∧fr 13=.slice p13 (paidA l t s dn).length k13∧
   Ext H G∧Left H.length G R r∧Own H.length G encO 3 p12 k12 (goO l t s [] dn)∧Own H.length G encI 1 p13 k13 (paidA l t s dn)∧(∀a,p12=some a→a.block≠R)∧(∀a,p13=some a→a.block≠R)∧(∀a b,p12=some a→p13=some b→a.block≠b.block)∧(paidA l t s dn).length≤dn.length)
   d ⟨[],c,H.length+1,none,0,none,0,rfl,hp.symm,(by simp only [FB,Nat.reduceEqDiff]),(by simp only [FB,Nat.reduceEqDiff]),(by simp only [FB,Nat.reduceEqDiff]),(by simp only [FB,Nat.reduceEqDiff]),by rfl,by rfl,Ext.refl.app,⟨c.flatMap encC,zHw,by omega,by rw [List.take_of_length_le];rw [flat_len encC_len];exact Nat.le_refl _,by rw [flat_len encC_len];exact Nat.le_refl _⟩,Own.nil,Own.nil,(fun a h=>by cases h),(fun a h=>by cases h),(fun a b h=>by cases h),Nat.le_refl _⟩ ?_
  rintro rest fr G ⟨dn,r,R,p12,k12,p13,k13,hd,hr,g0,g1,g2,g11,g12,g13,hE,hLf,hO,hI,a1,a2,a3,hpl⟩ hN
  rw [zRc l46_3.eq_1]
  refine zRp ?_
  cases rest with
  | nil=>
    obtain rfl:r=[]:=List.Perm.eq_nil hr
    rw [List.append_nil] at hd
    subst hd
    have hdl:d.length=c.length:=hp.length_eq
    simp only [n46,r46,g0,g1,g2,g11,g12,g13,SB,seval,zCa,aOp,zB,aUn,reduceCtorEq,zFr,place,zTu,zRe]
    refine ⟨hE.app,p12,k12,by rw [hdl],(hO.app _).sl encO_len⟩
  | cons x rest=>
  have hrl:0<r.length:=by rw [hr.length_eq];simp
  have hxs:(x::rest).Pairwise Lt:=by
   rw [hd] at hlt
   exact (List.pairwise_append.1 hlt).2.1
  obtain ⟨hpx,hpr⟩:=pick_first hr hxs
  have hkl:=pick_lt r r.length hrl
  have hrc:r.length≤c.length:=by
   rw [hr.length_eq,←hp.length_eq,hd,List.length_append];omega
  have hdc:dn.length<c.length:=by
   rw [←hp.length_eq,hd,List.length_append];simp
  have hL:=hE.len
  have hsl:=hLf.sl
  simp only [n46,r46,g0,g1,g2,g11,g12,g13,hrl,SB,seval,zCa,aOp,zB,aUn,reduceCtorEq,zFr,place,zTu,zRe]
  refine zRr (fun j=>r.length-j) (fun j fr2 G2=>0<j∧j≤r.length∧fr2 0=.slice pl l.length k1∧fr2 1=.slice pt t.length k2∧fr2 2=.slice ps s.length k3∧fr2 11=.slice (some ⟨R,0,none⟩) r.length (loose 6)∧fr2 12=.slice p12 dn.length k12∧fr2 13=.slice p13 (paidA l t s dn).length k13∧fr2 14=.int .i64 (pick r j:Int)∧fr2 15=.int .i64 (j:Int)∧G2=G++[])
   1 ⟨by decide,hrl,(by simp only [g0,FB,Nat.reduceEqDiff]),(by simp only [g1,FB,Nat.reduceEqDiff]),(by simp only [g2,FB,Nat.reduceEqDiff]),(by simp only [g11,FB,Nat.reduceEqDiff]),(by simp only [g12,FB,Nat.reduceEqDiff]),(by simp only [g13,FB,Nat.reduceEqDiff]),by rfl,by rfl,rfl⟩ ?_
  clear g0 g1 g2 g11 g12 g13
  intro j fr2 G2 ⟨hj0,hjr,g0,g1,g2,g11,g12,g13,g14,g15,hG2⟩ hN2
  subst hG2
  rw [zRc l46_2.eq_1]
  by_cases hjl:j<r.length
  ·have hpj:pick r j<r.length:=by have:=pick_lt r j hj0;omega
   have hldj:=fun X i hi=>(hsl.app X).loadCell (j:=i) encC_len hjl hi
   have hldj0:=fun X=>(hsl.app X).loadCell0 encC_len hjl (by decide)
   have hidj:=fun c (k:IntKind) (H1:zH)=>hsl.idx (c:=c) (k:=k) (H1:=H1) hjl
   have hldp:=fun X i hi=>(hsl.app X).loadCell (j:=i) encC_len hpj hi
   have hldp0:=fun X=>(hsl.app X).loadCell0 encC_len hpj (by decide)
   have hidp:=fun c (k:IntKind) (H1:zH)=>hsl.idx (c:=c) (k:=k) (H1:=H1) hpj
   have hw1:IntKind.i64.wrap ((j:Int)+1)=((j+1:Nat):Int):=zWn (by omega)
   have hstep:=pick_step (r:=r) hj0
   by_cases q1:(gt r j).tm<(gt r (pick r j)).tm
   ·rw [if_pos (.inl q1)] at hstep
    simp only [n46,r46,g0,g1,g2,g11,g12,g13,g14,g15,hjl,hldj,hldj0,hidj,hldp,hldp0,hidp,encC,q1,hw1,SB,seval,zCa,aOp,zB,aUn,reduceCtorEq,zFr,place,zTu,zRe]
    exact hN2 (j+1) _ _ ⟨by omega,by omega,(by simp only [g0,FB,Nat.reduceEqDiff]),(by simp only [g1,FB,Nat.reduceEqDiff]),(by simp only [g2,FB,Nat.reduceEqDiff]),(by simp only [g11,FB,Nat.reduceEqDiff]),(by simp only [g12,FB,Nat.reduceEqDiff]),(by simp only [g13,FB,Nat.reduceEqDiff]),(by simp only [hstep,FB,Nat.reduceEqDiff]),(by simp only [FB,Nat.reduceEqDiff]),rfl⟩ (by omega)
   by_cases q2:(gt r j).tm=(gt r (pick r j)).tm
   ·by_cases q3:(gt r j).id<(gt r (pick r j)).id
    ·rw [if_pos (.inr ⟨q2,q3⟩)] at hstep
     simp only [n46,r46,g0,g1,g2,g11,g12,g13,g14,g15,hjl,hldj,hldj0,hidj,hldp,hldp0,hidp,encC,q1,eq_true q2,q3,hw1,SB,seval,zCa,aOp,zB,aUn,reduceCtorEq,zFr,place,zTu,zRe]
     exact hN2 (j+1) _ _ ⟨by omega,by omega,(by simp only [g0,FB,Nat.reduceEqDiff]),(by simp only [g1,FB,Nat.reduceEqDiff]),(by simp only [g2,FB,Nat.reduceEqDiff]),(by simp only [g11,FB,Nat.reduceEqDiff]),(by simp only [g12,FB,Nat.reduceEqDiff]),(by simp only [g13,FB,Nat.reduceEqDiff]),(by simp only [hstep,FB,Nat.reduceEqDiff]),(by simp only [FB,Nat.reduceEqDiff]),rfl⟩ (by omega)
    ·rw [if_neg (by omega)] at hstep
     simp only [n46,r46,g0,g1,g2,g11,g12,g13,g14,g15,hjl,hldj,hldj0,hidj,hldp,hldp0,hidp,encC,q1,eq_true q2,q3,hw1,SB,seval,zCa,aOp,zB,aUn,reduceCtorEq,zFr,place,zTu,zRe]
     exact hN2 (j+1) _ _ ⟨by omega,by omega,(by simp only [g0,FB,Nat.reduceEqDiff]),(by simp only [g1,FB,Nat.reduceEqDiff]),(by simp only [g2,FB,Nat.reduceEqDiff]),(by simp only [g11,FB,Nat.reduceEqDiff]),(by simp only [g12,FB,Nat.reduceEqDiff]),(by simp only [g13,FB,Nat.reduceEqDiff]),(by simp only [hstep,g14,FB,Nat.reduceEqDiff]),(by simp only [FB,Nat.reduceEqDiff]),rfl⟩ (by omega)
   ·rw [if_neg (by omega)] at hstep
    simp only [n46,r46,g0,g1,g2,g11,g12,g13,g14,g15,hjl,hldj,hldj0,hidj,hldp,hldp0,hidp,encC,q1,q2,hw1,SB,seval,zCa,aOp,zB,aUn,reduceCtorEq,zFr,place,zTu,zRe]
    exact hN2 (j+1) _ _ ⟨by omega,by omega,(by simp only [g0,FB,Nat.reduceEqDiff]),(by simp only [g1,FB,Nat.reduceEqDiff]),(by simp only [g2,FB,Nat.reduceEqDiff]),(by simp only [g11,FB,Nat.reduceEqDiff]),(by simp only [g12,FB,Nat.reduceEqDiff]),(by simp only [g13,FB,Nat.reduceEqDiff]),(by simp only [hstep,g14,FB,Nat.reduceEqDiff]),(by simp only [FB,Nat.reduceEqDiff]),rfl⟩ (by omega)
  obtain rfl:j=r.length:=by omega
  clear hN2
  generalize pick r r.length=k at *
  have hxc:x∈c:=hp.subset (by rw [hd];simp)
  obtain ⟨o1,o2⟩:=rightC_mem r4 hxc
  have hldx:=fun X=>(hsl.app X).loadCells encC_len hkl
  have hldj:=fun X i hi=>(hsl.app X).loadCell (j:=i) encC_len hkl hi
  have hldj0:=fun X=>(hsl.app X).loadCell0 encC_len hkl (by decide)
  have hidx:=fun c (k:IntKind) (H1:zH)=>hsl.idx (c:=c) (k:=k) (H1:=H1) hkl
  rw [hpx] at hldx hldj hldj0
  have hv:=fun mp lim X Q=>verdict_ok (mp:=mp) (lim:=lim) (k1:=k1) (k2:=k2) (k3:=k3) (c:=x) (Q:=Q) ((hE.sl hl).app X) ((hE.sl ht).app X) ((hE.sl hs).app X) nl nt ns ul r1 r2 r3 o1 o2
  generalize hvv:decideS l t s x=v at hv
  have hlimG:lim≤G.length:=by omega
  simp only [n46,r46,g0,g1,g2,g11,g12,g13,g14,g15,hjl,hldx,hidx,encC,hv,hlimG,SB,seval,zCa,aOp,zB,aUn,reduceCtorEq,zFr,place,zTu,zRe]
  have hpd:=hI.sl (fun _=>rfl)
  generalize hpa:paidA l t s dn=pa at *
  let cell:Nat→Int×Int×Int:=fun i=>if v.2≠1∧x.item∈pa.take i then (x.id,0,7) else (x.id,v.1,v.2)
  refine zRr (fun i=>pa.length-i) (fun i fr2 G2=>i≤pa.length∧fr2 0=.slice pl l.length k1∧fr2 1=.slice pt t.length k2∧fr2 2=.slice ps s.length k3∧fr2 11=.slice (some ⟨R,0,none⟩) r.length (loose 6)∧fr2 12=.slice p12 dn.length k12∧fr2 13=.slice p13 pa.length k13∧fr2 14=.int .i64 (k:Int)∧fr2 16=.pointer (some ⟨G.length,0,none⟩)∧fr2 17=.int .i64 (i:Int)∧G2=G++[.cells false (encO (cell i))])
   0 ⟨Nat.zero_le _,(by simp only [g0,FB,Nat.reduceEqDiff]),(by simp only [g1,FB,Nat.reduceEqDiff]),(by simp only [g2,FB,Nat.reduceEqDiff]),(by simp only [g11,FB,Nat.reduceEqDiff]),(by simp only [g12,FB,Nat.reduceEqDiff]),(by simp only [g13,FB,Nat.reduceEqDiff]),(by simp only [g14,FB,Nat.reduceEqDiff]),(by simp only [FB,Nat.reduceEqDiff]),by rfl,by simp [cell,encO]⟩ ?_
  clear g0 g1 g2 g11 g12 g13 g14 g15
  intro i fr2 G2 ⟨hi,g0,g1,g2,g11,g12,g13,g14,g16,g17,hG2⟩ hN2
  subst hG2
  rw [zRc l46_1.eq_1]
  by_cases hil:i<pa.length
  ·have hldi:=fun X=>(hpd.app X).loadCell0 (fun _=>rfl) hil (by decide)
   have hldi':=fun X i hi=>(hpd.app X).loadCell (j:=i) (fun _=>rfl) hil hi
   have hidi:=fun c (k:IntKind) (H1:zH)=>hpd.idx (c:=c) (k:=k) (H1:=H1) hil
   have hw1:IntKind.i64.wrap ((i:Int)+1)=((i+1:Nat):Int):=zWn (by omega)
   have htk:pa.take (i+1)=pa.take i++[gt pa i]:=by rw [List.take_succ_eq_append_getElem hil,zGl hil]
   by_cases q1:gt pa i=x.item
   ·by_cases q2:v.2=1
    ·have hc1:cell i=(x.id,v.1,v.2):=by simp [cell,q2]
     have hc2:cell (i+1)=(x.id,v.1,v.2):=by simp [cell,q2]
     rw [hc1]
     simp only [n46,r46,g0,g1,g2,g11,g12,g13,g14,g16,g17,hil,hldi,hldi',hidi,hldj,hldj0,hidx,encC,encO,encI,q1,q2,hw1,SB,seval,zCa,aOp,zB,aUn,reduceCtorEq,zFr,place,zTu,zRe]
     refine hN2 (i+1) _ _ ⟨by omega,(by simp only [g0,FB,Nat.reduceEqDiff]),(by simp only [g1,FB,Nat.reduceEqDiff]),(by simp only [g2,FB,Nat.reduceEqDiff]),(by simp only [g11,FB,Nat.reduceEqDiff]),(by simp only [g12,FB,Nat.reduceEqDiff]),(by simp only [g13,FB,Nat.reduceEqDiff]),(by simp only [g14,FB,Nat.reduceEqDiff]),(by simp only [g16,FB,Nat.reduceEqDiff]),(by simp only [FB,Nat.reduceEqDiff]), ?_⟩ (by omega)
     rw [hc2];simp only [encO,q2]
    ·have hc2:cell (i+1)=(x.id,0,7):=by simp only [cell];rw [if_pos ⟨q2,by rw [htk];simp [q1]⟩]
     by_cases q3:x.item∈pa.take i
     ·have hc1:cell i=(x.id,0,7):=by simp only [cell];rw [if_pos ⟨q2,q3⟩]
      rw [hc1]
      simp only [n46,r46,g0,g1,g2,g11,g12,g13,g14,g16,g17,hil,hldi,hldi',hidi,hldj,hldj0,hidx,encC,encO,encI,q1,hw1,hlimG,SB,seval,zCa,aOp,zB,aUn,reduceCtorEq,zFr,place,zTu,zRe]
      refine hN2 (i+1) _ _ ⟨by omega,(by simp only [g0,FB,Nat.reduceEqDiff]),(by simp only [g1,FB,Nat.reduceEqDiff]),(by simp only [g2,FB,Nat.reduceEqDiff]),(by simp only [g11,FB,Nat.reduceEqDiff]),(by simp only [g12,FB,Nat.reduceEqDiff]),(by simp only [g13,FB,Nat.reduceEqDiff]),(by simp only [g14,FB,Nat.reduceEqDiff]),(by simp only [g16,FB,Nat.reduceEqDiff]),(by simp only [FB,Nat.reduceEqDiff]), ?_⟩ (by omega)
      rw [hc2];simp only [encO]
     ·have hc1:cell i=(x.id,v.1,v.2):=by simp only [cell];rw [if_neg (fun h=>q3 h.2)]
      rw [hc1]
      simp only [n46,r46,g0,g1,g2,g11,g12,g13,g14,g16,g17,hil,hldi,hldi',hidi,hldj,hldj0,hidx,encC,encO,encI,q1,q2,hw1,hlimG,SB,seval,zCa,aOp,zB,aUn,reduceCtorEq,zFr,place,zTu,zRe]
      refine hN2 (i+1) _ _ ⟨by omega,(by simp only [g0,FB,Nat.reduceEqDiff]),(by simp only [g1,FB,Nat.reduceEqDiff]),(by simp only [g2,FB,Nat.reduceEqDiff]),(by simp only [g11,FB,Nat.reduceEqDiff]),(by simp only [g12,FB,Nat.reduceEqDiff]),(by simp only [g13,FB,Nat.reduceEqDiff]),(by simp only [g14,FB,Nat.reduceEqDiff]),(by simp only [g16,FB,Nat.reduceEqDiff]),(by simp only [FB,Nat.reduceEqDiff]), ?_⟩ (by omega)
      rw [hc2];simp only [encO]
   ·have hc2:cell (i+1)=cell i:=by
     simp only [cell]
     rw [htk]
     have:x.item∈pa.take i++[gt pa i]↔x.item∈pa.take i:=by simp;intro h;exact absurd h.symm q1
     simp only [this]
    simp only [n46,r46,g0,g1,g2,g11,g12,g13,g14,g16,g17,hil,hldi,hldi',hidi,hldj,hldj0,hidx,encC,encI,q1,hw1,SB,seval,zCa,aOp,zB,aUn,reduceCtorEq,zFr,place,zTu,zRe]
    refine hN2 (i+1) _ _ ⟨by omega,(by simp only [g0,FB,Nat.reduceEqDiff]),(by simp only [g1,FB,Nat.reduceEqDiff]),(by simp only [g2,FB,Nat.reduceEqDiff]),(by simp only [g11,FB,Nat.reduceEqDiff]),(by simp only [g12,FB,Nat.reduceEqDiff]),(by simp only [g13,FB,Nat.reduceEqDiff]),(by simp only [g14,FB,Nat.reduceEqDiff]),(by simp only [g16,FB,Nat.reduceEqDiff]),(by simp only [FB,Nat.reduceEqDiff]), ?_⟩ (by omega)
    rw [hc2]
  obtain rfl:i=pa.length:=by omega
  clear hN2
  have hcell:cell pa.length=outO l t s pa x:=by
   simp only [cell,List.take_length,outO,hvv]
  rw [hcell]
  clear hcell cell hldx hv
  have ho:outO l t s (paidA l t s dn) x=outO l t s pa x:=by rw [hpa]
  have hgo:goO l t s [] (dn++[x])=goO l t s [] dn++[outO l t s pa x]:=by rw [goO_snoc];exact congrArg (fun z=>_++[z]) ho
  have hpn':paidA l t s (dn++[x])=if (outO l t s pa x).2.2=6 then pa++[x.item] else pa:=by
   rw [paidA,List.foldl_append]
   show paidN l t s (paidA l t s dn) x=_
   rw [hpa];rfl
  generalize outO l t s pa x=o at *
  clear ho
  have hgl:(goO l t s [] dn).length=dn.length:=goO_len dn []
  have hdd:d=(dn++[x])++rest:=by rw [hd];simp
  have hdl:dn.length<500:=by omega
  have hpal:pa.length≤dn.length:=hpl
  obtain ⟨cs,hR,hRl,hcs,hcl'⟩:=hLf
  have hRG:=zHa hR
  have hk1:k≤r.length:=by omega
  have hk2:k+1≤r.length:=hkl
  have hwk:IntKind.i64.wrap ((k:Int)+1)=((k+1:Nat):Int):=zWn (by omega)
  have hcut:=cut_cells hkl hcs
  have htake:=take_cells (Nat.le_of_lt hkl) hcs
  have hR12:∀a,p12=some a→a.block<G.length:=fun a h=>(hO.block h).2
  have hR13:∀a,p13=some a→a.block<G.length:=fun a h=>(hI.block h).2
  by_cases c6:o.2.2=6
  ·rw [if_pos c6] at hpn'
   obtain ⟨G1,R1,u1,u2,hM1,hE1,happ1⟩:=hI.push1 (lim':=lim) (bytes:=8) hlim (fun _=>rfl) (by decide) x.item (by unfold maxBytes;omega) (by omega)
   have hne1:∀a,p12=some a→a.block≠R1:=by
    intro a ha
    cases hp13:p13 with
    | none=>rw [u1 hp13];have:=hR12 a ha;omega
    | some b=>rw [u2 b hp13];exact a3 a b ha hp13
   have hRR1:R≠R1:=by
    cases hp13:p13 with
    | none=>rw [u1 hp13];omega
    | some b=>rw [u2 b hp13];exact fun e=>a2 b hp13 e.symm
   have hO1:=hO.mut hM1 hne1
   obtain ⟨G2,R2,v1,v2,hM2,hE2,happ2⟩:=hO1.push1 (lim':=lim) (bytes:=24) hlim encO_len (by decide) o (by unfold maxBytes;omega) (by omega)
   rw [hgl] at happ2
   have hRR2:R≠R2:=by
    cases hp12:p12 with
    | none=>rw [v1 hp12,hM1.len];omega
    | some b=>rw [v2 b hp12];exact fun e=>a1 b hp12 e.symm
   have hl2:G2.length=G.length:=hM2.len.trans hM1.len
   have hRc:zG G2 R=.cells false cs:=by rw [hM2.other R hRR2,hM1.other R hRR1];exact hR
   have hr1:=len_rules hM1.len
   have hr2:=len_rules hl2
   simp only [encO,encI] at happ1 happ2
   have hEE:Ext H G2:=hE2 H (hE1 H hE (Nat.le_refl _)) (Nat.le_refl _)
   by_cases hm:r.length-(k+1)=0
   ·have hnn:∀(X:zH) dest cc,zAa lim dest 6 48 false (.slice (some ⟨R,0,none⟩) k (loose 6)) (.slice (some ⟨R,(k+1)*6,none⟩) 0 cc) (G2++X)=some (.slice (some ⟨R,0,none⟩) k (loose 6),G2++X):=fun X dest cc=>append_none (by decide) (.inr ⟨_,rfl⟩) (by unfold maxBytes;omega) (by omega) (by unfold loose;omega) (.inr ⟨_,rfl⟩)
    have hrk:r.take k++r.drop (k+1)=r.take k:=by rw [List.drop_eq_nil_of_le (by omega),List.append_nil]
    rw [hrk] at hpr
    have hrkl:(r.take k).length=k:=by rw [List.length_take];omega
    simp only [n46,r46,g0,g1,g2,g11,g12,g13,g14,g16,g17,hil,encO,c6,hldj,hidx,encC,happ1,happ2,hr1,hr2,hwk,aSliceS,bounds_V,bv_010,bv_100,nat_nn,Int.toNat_natCast,hk1,hk2,hm,hnn,Nat.zero_mul,Nat.sub_zero,SB,seval,zCa,aOp,zB,aUn,reduceCtorEq,zFr,place,zTu,zRe]
    refine hN rest _ _ ⟨dn++[x],r.take k,R,some ⟨G.length+4,0,none⟩,loose 3,some ⟨G.length+2,0,none⟩,loose 1,hdd,hpr,(by simp only [g0,FB,Nat.reduceEqDiff]),(by simp only [g1,FB,Nat.reduceEqDiff]),(by simp only [g2,FB,Nat.reduceEqDiff]),(by simp only [hrkl,FB,Nat.reduceEqDiff]), ?_, ?_,hEE.app,⟨cs, ?_,hRl, ?_, ?_⟩,Own.new ?_ (by omega),Own.new ?_ (by omega), ?_, ?_, ?_, ?_⟩ (by simp)
    ·rw [List.length_append];exact (by simp only [List.length_singleton,FB,Nat.reduceEqDiff])
    ·rw [hpn',List.length_append];exact (by simp only [List.length_singleton,FB,Nat.reduceEqDiff])
    ·rw [zHo (by omega)];exact hRc
    ·rw [hrkl];exact htake
    ·rw [hrkl];omega
    ·rw [hr2.2.1,hgo];simp only [List.getD_cons_succ,List.getD_cons_zero]
    ·rw [hr2.2.1,hpn'];simp only [List.getD_cons_succ,List.getD_cons_zero]
    ·intro a h;cases h;simp only;omega
    ·intro a h;cases h;simp only;omega
    ·intro a b h h';cases h;cases h';simp only;omega
    ·rw [hpn'];simp only [List.length_append,List.length_cons,List.length_nil];omega
   ·obtain ⟨G3,hset,_,hM3⟩:=mut_set (show R<G2.length by omega) .dead
    have hr3:=len_rules (hM3.len.trans hl2)
    have hcc:∀(X:zH) dest cc,zAa lim dest 6 48 false (.slice (some ⟨R,0,none⟩) k (loose 6)) (.slice (some ⟨R,(k+1)*6,none⟩) (r.length-(k+1)) cc) (G2++X) =
      some (.slice (some ⟨(place dest (.cells false ((r.take k++r.drop (k+1)).flatMap encC)) (G3++X)).1,0,none⟩) (r.length-1) (loose 6),(place dest (.cells false ((r.take k++r.drop (k+1)).flatMap encC)) (G3++X)).2):=by
     intro X dest cc
     rw [append_cut (cs:=cs) (lim:=lim) (bytes:=48) (n:=k) (m:=r.length-(k+1)) (o:=(k+1)*6) (e:=6) (R:=R) (by rw [zHo (by omega)];exact hRc) (by omega) (by decide) hm (by omega) (by omega) (by unfold maxBytes;omega) (by omega),hcut,hset,show k+(r.length-(k+1))=r.length-1 by omega]
    have hrl':(r.take k++r.drop (k+1)).length=r.length-1:=by rw [List.length_append,List.length_take,List.length_drop];omega
    generalize r.take k++r.drop (k+1)=r' at *
    simp only [n46,r46,g0,g1,g2,g11,g12,g13,g14,g16,g17,hil,encO,c6,hldj,hidx,encC,happ1,happ2,hr1,hr2,hr3,hwk,aSliceS,bounds_V,bv_010,bv_100,nat_nn,Int.toNat_natCast,hk1,hk2,hcc,Nat.zero_mul,Nat.sub_zero,SB,seval,zCa,aOp,zB,aUn,reduceCtorEq,zFr,place,zTu,zRe]
    have hE3:Ext H G3:=hM3.ext hEE (by omega)
    refine hN rest _ _ ⟨dn++[x],r',G.length+5,some ⟨G.length+4,0,none⟩,loose 3,some ⟨G.length+2,0,none⟩,loose 1,hdd,hpr,(by simp only [g0,FB,Nat.reduceEqDiff]),(by simp only [g1,FB,Nat.reduceEqDiff]),(by simp only [g2,FB,Nat.reduceEqDiff]),(by simp only [hrl',FB,Nat.reduceEqDiff]), ?_, ?_,hE3.app,⟨r'.flatMap encC, ?_,by omega, ?_, ?_⟩,Own.new ?_ (by omega),Own.new ?_ (by omega), ?_, ?_, ?_, ?_⟩ (by simp)
    ·rw [List.length_append];exact (by simp only [List.length_singleton,FB,Nat.reduceEqDiff])
    ·rw [hpn',List.length_append];exact (by simp only [List.length_singleton,FB,Nat.reduceEqDiff])
    ·rw [hr3.2.1];simp only [List.getD_cons_succ,List.getD_cons_zero]
    ·rw [List.take_of_length_le];rw [flat_len encC_len];exact Nat.le_refl _
    ·rw [flat_len encC_len];exact Nat.le_refl _
    ·rw [hr3.2.1,hgo];simp only [List.getD_cons_succ,List.getD_cons_zero]
    ·rw [hr3.2.1,hpn'];simp only [List.getD_cons_succ,List.getD_cons_zero]
    ·intro a h;cases h;simp only;omega
    ·intro a h;cases h;simp only;omega
    ·intro a b h h';cases h;cases h';simp only;omega
    ·rw [hpn'];simp only [List.length_append,List.length_cons,List.length_nil];omega
  ·rw [if_neg c6] at hpn'
   obtain ⟨G2,R2,v1,v2,hM2,hE2,happ2⟩:=hO.push1 (lim':=lim) (bytes:=24) hlim encO_len (by decide) o (by unfold maxBytes;omega) (by omega)
   rw [hgl] at happ2
   have hRR2:R≠R2:=by
    cases hp12:p12 with
    | none=>rw [v1 hp12];omega
    | some b=>rw [v2 b hp12];exact fun e=>a1 b hp12 e.symm
   have hne2:∀a,p13=some a→a.block≠R2:=by
    intro a ha
    cases hp12:p12 with
    | none=>rw [v1 hp12];have:=hR13 a ha;omega
    | some b=>rw [v2 b hp12];exact fun e=>a3 b a hp12 ha e.symm
   have hI2:=hI.mut hM2 hne2
   have hl2:G2.length=G.length:=hM2.len
   have hRc:zG G2 R=.cells false cs:=by rw [hM2.other R hRR2];exact hR
   have hr2:=len_rules hl2
   simp only [encO] at happ2
   have hEE:Ext H G2:=hE2 H hE (Nat.le_refl _)
   by_cases hm:r.length-(k+1)=0
   ·have hnn:∀(X:zH) dest cc,zAa lim dest 6 48 false (.slice (some ⟨R,0,none⟩) k (loose 6)) (.slice (some ⟨R,(k+1)*6,none⟩) 0 cc) (G2++X)=some (.slice (some ⟨R,0,none⟩) k (loose 6),G2++X):=fun X dest cc=>append_none (by decide) (.inr ⟨_,rfl⟩) (by unfold maxBytes;omega) (by omega) (by unfold loose;omega) (.inr ⟨_,rfl⟩)
    have hrk:r.take k++r.drop (k+1)=r.take k:=by rw [List.drop_eq_nil_of_le (by omega),List.append_nil]
    rw [hrk] at hpr
    have hrkl:(r.take k).length=k:=by rw [List.length_take];omega
    simp only [n46,r46,g0,g1,g2,g11,g12,g13,g14,g16,g17,hil,encO,c6,hldj,hidx,encC,happ2,hr2,hwk,aSliceS,bounds_V,bv_010,bv_100,nat_nn,Int.toNat_natCast,hk1,hk2,hm,hnn,Nat.zero_mul,Nat.sub_zero,SB,seval,zCa,aOp,zB,aUn,reduceCtorEq,zFr,place,zTu,zRe]
    refine hN rest _ _ ⟨dn++[x],r.take k,R,some ⟨G.length+2,0,none⟩,loose 3,p13,k13,hdd,hpr,(by simp only [g0,FB,Nat.reduceEqDiff]),(by simp only [g1,FB,Nat.reduceEqDiff]),(by simp only [g2,FB,Nat.reduceEqDiff]),(by simp only [hrkl,FB,Nat.reduceEqDiff]), ?_, ?_,hEE.app,⟨cs, ?_,hRl, ?_, ?_⟩,Own.new ?_ (by omega),by rw [hpn'];exact hI2.app _, ?_,a2, ?_, ?_⟩ (by simp)
    ·rw [List.length_append];exact (by simp only [List.length_singleton,FB,Nat.reduceEqDiff])
    ·rw [hpn'];exact (by simp only [g13,FB,Nat.reduceEqDiff])
    ·rw [zHo (by omega)];exact hRc
    ·rw [hrkl];exact htake
    ·rw [hrkl];omega
    ·rw [hr2.2.1,hgo];simp only [List.getD_cons_succ,List.getD_cons_zero]
    ·intro a h;cases h;simp only;omega
    ·intro a b h h';cases h;have:=hR13 b h';simp only;omega
    ·rw [hpn'];simp only [List.length_append,List.length_cons,List.length_nil];omega
   ·obtain ⟨G3,hset,_,hM3⟩:=mut_set (show R<G2.length by omega) .dead
    have hr3:=len_rules (hM3.len.trans hl2)
    have hcc:∀(X:zH) dest cc,zAa lim dest 6 48 false (.slice (some ⟨R,0,none⟩) k (loose 6)) (.slice (some ⟨R,(k+1)*6,none⟩) (r.length-(k+1)) cc) (G2++X) =
      some (.slice (some ⟨(place dest (.cells false ((r.take k++r.drop (k+1)).flatMap encC)) (G3++X)).1,0,none⟩) (r.length-1) (loose 6),(place dest (.cells false ((r.take k++r.drop (k+1)).flatMap encC)) (G3++X)).2):=by
     intro X dest cc
     rw [append_cut (cs:=cs) (lim:=lim) (bytes:=48) (n:=k) (m:=r.length-(k+1)) (o:=(k+1)*6) (e:=6) (R:=R) (by rw [zHo (by omega)];exact hRc) (by omega) (by decide) hm (by omega) (by omega) (by unfold maxBytes;omega) (by omega),hcut,hset,show k+(r.length-(k+1))=r.length-1 by omega]
    have hrl':(r.take k++r.drop (k+1)).length=r.length-1:=by rw [List.length_append,List.length_take,List.length_drop];omega
    generalize r.take k++r.drop (k+1)=r' at *
    simp only [n46,r46,g0,g1,g2,g11,g12,g13,g14,g16,g17,hil,encO,c6,hldj,hidx,encC,happ2,hr2,hr3,hwk,aSliceS,bounds_V,bv_010,bv_100,nat_nn,Int.toNat_natCast,hk1,hk2,hcc,Nat.zero_mul,Nat.sub_zero,SB,seval,zCa,aOp,zB,aUn,reduceCtorEq,zFr,place,zTu,zRe]
    have hE3:Ext H G3:=hM3.ext hEE (by omega)
    refine hN rest _ _ ⟨dn++[x],r',G.length+3,some ⟨G.length+2,0,none⟩,loose 3,p13,k13,hdd,hpr,(by simp only [g0,FB,Nat.reduceEqDiff]),(by simp only [g1,FB,Nat.reduceEqDiff]),(by simp only [g2,FB,Nat.reduceEqDiff]),(by simp only [hrl',FB,Nat.reduceEqDiff]), ?_, ?_,hE3.app,⟨r'.flatMap encC, ?_,by omega, ?_, ?_⟩,Own.new ?_ (by omega),by rw [hpn'];exact (hI2.mut hM3 a2).app _, ?_, ?_, ?_, ?_⟩ (by simp)
    ·rw [List.length_append];exact (by simp only [List.length_singleton,FB,Nat.reduceEqDiff])
    ·rw [hpn'];exact (by simp only [g13,FB,Nat.reduceEqDiff])
    ·rw [hr3.2.1];simp only [List.getD_cons_succ,List.getD_cons_zero]
    ·rw [List.take_of_length_le];rw [flat_len encC_len];exact Nat.le_refl _
    ·rw [flat_len encC_len];exact Nat.le_refl _
    ·rw [hr3.2.1,hgo];simp only [List.getD_cons_succ,List.getD_cons_zero]
    ·intro a h;cases h;simp only;omega
    ·intro a h;have:=hR13 a h;omega
    ·intro a b h h';cases h;have:=hR13 b h';simp only;omega
    ·rw [hpn'];simp only [List.length_append,List.length_cons,List.length_nil];omega
 obtain ⟨k,v,H',hx,⟨Y,rfl⟩,p',k',rfl,hs'⟩:=CallR.one key
 exact ⟨p',k',Y,hs',fun Q=>CallR.det hx⟩
end Go.Proofs.Ytlmoijifgbkapaa.Fn

namespace Go.Proofs.Ytlmoijifgbkapaa.Fn
open Go.AM Go.AM.Sym Go.Sort
theorem Settle_nil [OB] {lim:Nat} {pl pt ps pc:Option Addr} {l:List Std} {t:List Trm} {s:List Snt} {k1 k2 k3 k4:Nat} {H:zH} (hl:Sl H encS 4 pl l) (ht:Sl H encT 7 pt t) (hs:Sl H encN 6 ps s) (hc:Sl H encC 6 pc ([]:List Clm)) (nl:l.length<2 ^ 62) (nt:t.length<2 ^ 62) (ns:s.length<2 ^ 62) (h0:checkS l t s []=0) :
  ∃(p:Option Addr) (Y:zH),Sl (H++Y) encO 3 p ([]:List (Int×Int×Int))∧∀Q,CallR E false lim 25 [.slice pl l.length k1,.slice pt t.length k2,.slice ps s.length k3,.slice pc 0 k4] H Q=Q (.tuple #[.slice p 0 0,.int .i64 0]) (H++Y):=by
 obtain ⟨p',k',Y,hcl⟩:=clone_nil (lim:=lim) (cap:=k4) (p:=pc) (H:=H)
 obtain ⟨G1,hG1⟩:∃G,G=H++Y:=⟨_,rfl⟩
 have hcl':∀Q,CallR E false lim 49 [.slice pc 0 k4] (H++[]) Q=Q (.slice p' 0 k') (G1++[]):=fun Q=>by rw [List.append_nil,List.append_nil,hG1];exact hcl Q
 have key:CallR E false lim 25 [.slice pl l.length k1,.slice pt t.length k2,.slice ps s.length k3,.slice pc 0 k4] H (fun v H'=>v=.tuple #[.slice (some ⟨G1.length+1,0,none⟩) 0 0,.int .i64 0]∧Ext H H'):=by
  rw [CallR_run (E:=E) (g:=25) (af:=a25) (by simp [E,orc,OA.srtN]) e25 rfl rfl]
  rw [b25,c25]
  refine zRp ?_
  have hck:∀mp lim X Q,CallR E mp lim 37 [.slice pl l.length k1,.slice pt t.length k2,.slice ps s.length k3,.slice pc 0 k4] (H++X) Q=Q (.int .i64 (checkS l t s [])) (H++X):=fun mp lim X Q=>check_ok (c:=[]) (mp:=mp) (lim:=lim) (k1:=k1) (k2:=k2) (k3:=k3) (k4:=k4) (Q:=Q) (hl.app X) (ht.app X) (hs.app X) (hc.app X) nl nt ns (by simp)
  have hsn:∀X Q,CallR E false lim 50 [.slice p' 0 k',.func (.func 51) #[] #[]] (G1++X) Q=Q (.tuple #[]) (G1++X):=fun X Q=>Srt.sort_nil at50
  have q1:(0:Int)*24≤2 ^ 45:=by decide
  have q2:(0:Int)<2 ^ 62:=by decide
  simp only [n25,r25,hck,h0,hcl',hsn,q1,q2,and_self,if_true,Int.toNat_zero,SB,seval,zCa,aOp,zB,aUn,reduceCtorEq,zFr,place,zTu,zRe]
  rw [Ret_loop,zRc l25_1.eq_1]
  simp only [n25,r25,SB,seval,zCa,aOp,zB,aUn,reduceCtorEq,zFr,place,zTu,zRe]
  rw [hG1]
  simpa using (Ext.refl.app.app:Ext H (H++Y++_))
 obtain ⟨k,v,H',hx,rfl,⟨Y',rfl⟩⟩:=CallR.one key
 exact ⟨some ⟨G1.length+1,0,none⟩,Y',by unfold Sl;exact ⟨rfl,fun h=>absurd rfl h⟩,fun Q=>CallR.det hx⟩
theorem Settle_ok [OB] {lim:Nat} {pl pt ps pc:Option Addr} {l:List Std} {t:List Trm} {s:List Snt} {c:List Clm} {k1 k2 k3 k4:Nat} {H:zH} (hl:Sl H encS 4 pl l) (ht:Sl H encT 7 pt t) (hs:Sl H encN 6 ps s) (hc:Sl H encC 6 pc c) (nl:l.length<2 ^ 62) (nt:t.length<2 ^ 62) (ns:s.length<2 ^ 62) (nc:c.length<2 ^ 62) (hlim:lim≤H.length) (h0:checkS l t s c=0) (hpn:c≠[]→pc≠none) :
  ∃(d:List Clm) (p:Option Addr) (Y:zH),d.Perm c∧d.Pairwise Lt∧Sl (H++Y) encO 3 p (goO l t s [] d)∧∀Q,CallR E false lim 25 [.slice pl l.length k1,.slice pt t.length k2,.slice ps s.length k3,.slice pc c.length k4] H Q=Q (.tuple #[.slice p c.length c.length,.int .i64 0]) (H++Y):=by
 by_cases hc0:c=[]
 ·subst hc0
  obtain ⟨p,Y,h1,h2⟩:=Settle_nil (lim:=lim) (k1:=k1) (k2:=k2) (k3:=k3) (k4:=k4) hl ht hs hc nl nt ns h0
  exact ⟨[],p,Y,.nil,.nil,h1,h2⟩
 ·obtain ⟨d,p,Y,h1,h2,h3,_,h4⟩:=Settle_run (lim:=lim) (k1:=k1) (k2:=k2) (k3:=k3) (k4:=k4) hl ht hs hc nl nt ns nc hlim h0 hpn hc0
  exact ⟨d,p,Y,h1,h2,h3,h4⟩
end Go.Proofs.Ytlmoijifgbkapaa.Fn

namespace Go.Proofs.Ytlmoijifgbkapaa.Fn
open Go.AM Go.AM.Sym
theorem tells_ok [OB] {mp:Bool} {lim:Nat} {Q:Value→zH→Prop} {pl pt ps pc':Option Addr} {l:List Std} {t:List Trm} {s:List Snt} {c:List Clm} {k1 k2 k3 k4:Nat} {H:zH} (hl:Sl H encS 4 pl l) (ht:Sl H encT 7 pt t) (hs:Sl H encN 6 ps s) (hc:Sl H encC 6 pc' c) (nl:l.length≤2001) (nt:t.length≤2001) (ns:s.length≤2001) (nc:c.length≤2001) (ul:∀x∈l,0≤x.cls) (ut:∀x∈t,0≤x.cls) (us:∀x∈s,0≤x.cls) (uc:∀x∈c,0≤x.kind∧x.kind<256) (hpn:c≠[]→pc'≠none):CallR E mp lim 18 [.slice pl l.length k1,.slice pt t.length k2,.slice ps s.length k3,.slice pc' c.length k4] H Q=Q (.bool true) H:=by
 refine pc (by decide) e18 rfl rfl ?_
 rw [b18,c18]
 have o42:∀G:zH,Ext H G→∃p k G',Ext G G'∧Sl G' encT 7 p t∧∀Q,CallR E false H.length 42 [.slice pt t.length k2] (G++[]) Q=Q (.slice p t.length k) (G'++[]):=by
  intro G hE
  obtain ⟨p,k,Y,h1,h2⟩:=otherTerms_ok (lim:=H.length) (cap:=k2) (hE.sl ht) nt hE.len
  exact ⟨p,k,G++Y,⟨Y,rfl⟩,h1,fun Q=>by rw [List.append_nil,List.append_nil];exact h2 Q⟩
 have o45:∀G:zH,Ext H G→∃p k G',Ext G G'∧Sl G' encC 6 p c∧∀Q,CallR E false H.length 45 [.slice pc' c.length k4] (G++[]) Q=Q (.slice p c.length k) (G'++[]):=by
  intro G hE
  obtain ⟨p,k,Y,h1,h2⟩:=others_ok (lim:=H.length) (cap:=k4) (hE.sl hc) nc hE.len
  exact ⟨p,k,G++Y,⟨Y,rfl⟩,h1,fun Q=>by rw [List.append_nil,List.append_nil];exact h2 Q⟩
 obtain ⟨q1,j1,G1,hE1,hq1,hc1⟩:=o42 H Ext.refl
 obtain ⟨q2,j2,G2,hE2',hq2,hc2⟩:=o45 G1 hE1
 have hE2:=hE1.trans hE2'
 have f11:=fun mp lim X Q=>Right_ok mp lim (cap:=k1) (Q:=Q) (hl.app X) (by omega)
 have f12:=fun mp lim X Q=>refRight_ok mp lim (cap:=k1) (Q:=Q) (hl.app X) (by omega) ul
 have f26:=fun mp lim X Q=>RightTerms_ok mp lim (cap:=k2) (Q:=Q) (ht.app X) (by omega)
 have f41:=fun mp lim X Q=>refRightTerms_ok mp lim (cap:=j1) (Q:=Q) (hq1.app X) (by omega) ut
 have f27:=fun mp lim X Q=>RightSent_ok mp lim (cap:=k3) (Q:=Q) ((hE1.sl hs).app X) (by omega)
 have f43:=fun mp lim X Q=>refRightSent_ok mp lim (cap:=k3) (Q:=Q) ((hE1.sl hs).app X) (by omega) us
 have f28:=fun mp lim X Q=>RightClaims_ok mp lim (cap:=k4) (Q:=Q) ((hE1.sl hc).app X) (by omega)
 have f44:=fun mp lim X Q=>refRightClaims_ok mp lim (cap:=j2) (Q:=Q) (hq2.app X) (by omega) uc
 have loop2:∀(fr:Nat→Value) (G:zH),fr 0=.slice pl l.length k1→fr 1=.slice pt t.length k2→fr 2=.slice ps s.length k3→fr 3=.slice pc' c.length k4→Ext H G→
   Ret E a18 H.length (.code (.seq (.ops [i 14 (.mov (k (.int .i64 0)))]) (.block 2 (.loop l18_1)))::.code (.seq (.ops [i 8 (.mov (k (.bool true)))]) .ret)::[]) fr (G++[]) fun v' _=>v'=.bool true:=by
  intro fr G g0 g1 g2 g3 hE
  simp only [n18,r18,SB,seval,zCa,aOp,zB,aUn,reduceCtorEq,zFr,place,zTu,zRe]
  refine zRr (fun i=>c.length-i) (fun i fr G=>i≤c.length∧fr 0=.slice pl l.length k1∧fr 1=.slice pt t.length k2∧fr 2=.slice ps s.length k3∧fr 3=.slice pc' c.length k4∧fr 14=.int .i64 (i:Int)∧Ext H G) 0 ⟨Nat.zero_le _,(by exact g0),(by exact g1),(by exact g2),(by exact g3),by rfl,hE.app⟩ ?_
  clear g0 g1 g2 g3 hE
  intro i fr G ⟨hi,g0,g1,g2,g3,g14,hE⟩ hN
  rw [zRc l18_1.eq_1]
  refine zRp ?_
  by_cases hlt:i<c.length
  case neg=>simp only [n18,r18,g0,g1,g2,g3,g14,hlt,SB,seval,zCa,aOp,zB,aUn,reduceCtorEq,zFr,place,zTu,zRe]
  by_cases h4:(i:Int)<4
  case neg=>simp only [n18,r18,g0,g1,g2,g3,g14,hlt,h4,SB,seval,zCa,aOp,zB,aUn,reduceCtorEq,zFr,place,zTu,zRe]
  obtain ⟨q3,j3,G3,hE3',hq3,hc3⟩:=o42 (G++[.cells false (if checkS l t s [gt c i]=0 then encO ((gt c i).id,(decideS l t s (gt c i)).1,(decideS l t s (gt c i)).2) else encO (0,0,0))]) hE.app
  obtain ⟨q4,j4,G4,hE4',hq4,hc4⟩:=o45 G3 (hE.app.trans hE3')
  have hE3:=hE.app.trans hE3'
  have hE4:=hE3.trans hE4'
  have hg:=hE.sl hc
  have hld:=fun X=>(hg.app X).loadCells encC_len hlt
  have hidx:=fun c (k:IntKind) (H1:zH)=>hg.idx (c:=c) (k:=k) (H1:=H1) hlt
  have hld4:=fun X=>(hq4.app X).loadCells encC_len hlt
  have hidx4:=fun c (k:IntKind) (H1:zH)=>hq4.idx (c:=c) (k:=k) (H1:=H1) hlt
  have hw1:IntKind.i64.wrap ((i:Int)+1)=((i+1:Nat):Int):=zWn (by omega)
  have hLG:=hE.len
  have hLG4:=hE4.len
  have f15:=fun mp lim X Q=>Decide_ok (mp:=mp) (lim:=lim) (k1:=k1) (k2:=k2) (k3:=k3) (c:=gt c i) (Q:=Q) ((hE.sl hl).app X) ((hE.sl ht).app X) ((hE.sl hs).app X) (by omega) (by omega) (by omega)
  have f48:=fun mp lim X Q=>refDecide_ok (mp:=mp) (lim:=lim) (k1:=k1) (k2:=j3) (k3:=k3) (c:=gt c i) (Q:=Q) ((hE4.sl hl).app X) ((hE4'.sl hq3).app X) ((hE4.sl hs).app X) (by omega) (by omega) (by omega) ul ut us (uc _ (gt_mem hlt))
  have hce:∀X,zG (G4++X) G.length=.cells false (if checkS l t s [gt c i]=0 then encO ((gt c i).id,(decideS l t s (gt c i)).1,(decideS l t s (gt c i)).2) else encO (0,0,0)):=fun X=>(hE3'.trans hE4').app.cells zHn
  rw [List.append_assoc,List.append_nil] at hc3
  by_cases hck:checkS l t s [gt c i]=0
  ·simp only [hck,if_true,encO] at hce hc3
   simp only [n18,r18,g0,g1,g2,g3,g14,hlt,h4,hidx,hld,encC,f15,hck,hLG,hc3,hc4,hidx4,hld4,f48,hce,hLG4,same_ok,and_self,hw1,SB,seval,zCa,aOp,zB,aUn,reduceCtorEq,zFr,place,zTu,zRe]
   exact hN (i+1) _ _ ⟨by omega,(by exact g0),(by exact g1),(by exact g2),(by exact g3),(by rfl),hE4.app⟩ (by omega)
  ·simp only [hck,if_false,encO] at hce hc3
   simp only [n18,r18,g0,g1,g2,g3,g14,hlt,h4,hidx,hld,encC,f15,hck,hLG,hc3,hc4,hidx4,hld4,f48,hce,hLG4,same_ok,and_self,hw1,SB,seval,zCa,aOp,zB,aUn,reduceCtorEq,zFr,place,zTu,zRe]
   exact hN (i+1) _ _ ⟨by omega,(by exact g0),(by exact g1),(by exact g2),(by exact g3),(by rfl),hE4.app⟩ (by omega)
 generalize hL2:(zAc.seq (.ops [i 14 (.mov (k (.int .i64 0)))]) (.block 2 (.loop l18_1)))=L2 at loop2
 by_cases hck:checkS l t s c=0
 ·obtain ⟨d,po,Y3,hp,hlt,hout,hse⟩:=Settle_ok (lim:=H.length) (k1:=k1) (k2:=k2) (k3:=k3) (k4:=k4) (hE2.sl hl) (hE2.sl ht) (hE2.sl hs) (hE2.sl hc) (by omega) (by omega) (by omega) (by omega) hE2.len hck hpn
  obtain ⟨G3,hG3⟩:∃G,G=G2++Y3:=⟨_,rfl⟩
  have hE3':Ext G2 G3:=⟨Y3,hG3⟩
  have hE3:=hE2.trans hE3'
  rw [←hG3] at hout
  have hse':∀Q,CallR E false H.length 25 [.slice pl l.length k1,.slice pt t.length k2,.slice ps s.length k3,.slice pc' c.length k4] (G2++[]) Q=Q (.tuple #[.slice po c.length c.length,.int .i64 0]) (G3++[]):=fun Q=>by rw [List.append_nil,List.append_nil,hG3];exact hse Q
  obtain ⟨q3,j3,G4,hE4',hq3,hc3⟩:=o42 G3 hE3
  have hE4:=hE3.trans hE4'
  obtain ⟨q4,j4,G5,hE5',hq4,hc4⟩:=o45 G4 hE4
  have hE5:=hE4.trans hE5'
  obtain ⟨po2,kk,Y6,hout2,hse2⟩:=refSettle_run (lim:=H.length) (k1:=k1) (k2:=j3) (k3:=k3) (k4:=j4) (hE5.sl hl) (hE5'.sl hq3) (hE5.sl hs) hq4 (by omega) (by omega) (by omega) (by omega) ul ut us uc hE5.len hck (by
   intro hne h;rw [h] at hq4;exact hne hq4) hp hlt
  obtain ⟨G6,hG6⟩:∃G,G=G5++Y6:=⟨_,rfl⟩
  have hE6':Ext G5 G6:=⟨Y6,hG6⟩
  have hE6:=hE5.trans hE6'
  rw [←hG6] at hout2
  have hse2':∀Q,CallR E false H.length 46 [.slice pl l.length k1,.slice q3 t.length j3,.slice ps s.length k3,.slice q4 c.length j4] (G5++[]) Q=Q (.tuple #[.slice po2 c.length kk,.int .i64 0]) (G6++[]):=fun Q=>by rw [List.append_nil,List.append_nil,hG6];exact hse2 Q
  have hdl:d.length=c.length:=hp.length_eq
  have hgl:(goO l t s [] d).length=c.length:=by rw [goO_len,hdl]
  simp only [n18,r18,f11,f12,f26,f41,f27,f43,f28,f44,hc1,hc2,aEq,bne_self_eq_false,beq_self_eq_true,hse',hc3,hc4,hse2',hL2,SB,seval,zCa,aOp,zB,aUn,reduceCtorEq,zFr,place,zTu,zRe]
  refine zRr (fun i=>c.length-i) (fun i fr G=>i≤c.length∧fr 0=.slice pl l.length k1∧fr 1=.slice pt t.length k2∧fr 2=.slice ps s.length k3∧fr 3=.slice pc' c.length k4∧fr 9=.slice po c.length c.length∧fr 11=.slice po2 c.length kk∧fr 13=.int .i64 (i:Int)∧Ext G6 G) 0 ⟨Nat.zero_le _,(by rfl),(by rfl),(by rfl),(by rfl),(by rfl),(by rfl),by rfl,Ext.refl.app⟩ ?_
  intro i fr G ⟨hi,g0,g1,g2,g3,g9,g11,g13,hE⟩ hN
  rw [zRc l18_2.eq_1]
  refine zRp ?_
  by_cases hlt':i<c.length
  ·have hio:i<(goO l t s [] d).length:=by omega
   have ho1:=((hE4'.trans hE5').trans (hE6'.trans hE)).sl hout
   have ho2:=hE.sl hout2
   have hidx1:∀k (kk:IntKind) (H1:zH),idxK 3 (.slice po c.length k) (.int kk (i:Int)) H1=some (.pointer (some (elt po 3 i)),H1):=fun k kk H1=>by rw [←hgl];exact ho1.idx hio
   have hidx2:∀k (kk:IntKind) (H1:zH),idxK 3 (.slice po2 c.length k) (.int kk (i:Int)) H1=some (.pointer (some (elt po2 3 i)),H1):=fun k kk H1=>by rw [←hgl];exact ho2.idx hio
   have hld1:=fun X=>(ho1.app X).loadCells encO_len hio
   have hld2:=fun X=>(ho2.app X).loadCells encO_len hio
   have hw1:IntKind.i64.wrap ((i:Int)+1)=((i+1:Nat):Int):=zWn (by omega)
   simp only [n18,r18,g0,g1,g2,g3,g9,g11,g13,hlt',hidx1,hidx2,hld1,hld2,encO,same_ok,and_self,hw1,SB,seval,zCa,aOp,zB,aUn,reduceCtorEq,zFr,place,zTu,zRe]
   exact hN (i+1) _ _ ⟨by omega,(by exact g0),(by exact g1),(by exact g2),(by exact g3),(by exact g9),(by exact g11),(by rfl),hE.app⟩ (by omega)
  ·simp only [n18,r18,g0,g1,g2,g3,g9,g11,g13,hlt',SB,seval,zCa,aOp,zB,aUn,reduceCtorEq,zFr,place,zTu,zRe]
   exact loop2 _ _ (by exact g0) (by exact g1) (by exact g2) (by exact g3) (hE6.trans hE)
 ·have hse':∀Q,CallR E false H.length 25 [.slice pl l.length k1,.slice pt t.length k2,.slice ps s.length k3,.slice pc' c.length k4] (G2++[]) Q=Q (.tuple #[.slice none 0 0,.int .i64 (checkS l t s c)]) (G2++[]):=fun Q=>Settle_bad (lim:=H.length) (k1:=k1) (k2:=k2) (k3:=k3) (k4:=k4) ((hE2.sl hl).app _) ((hE2.sl ht).app _) ((hE2.sl hs).app _) ((hE2.sl hc).app _) (by omega) (by omega) (by omega) (by omega) hck
  obtain ⟨q3,j3,G4,hE4',hq3,hc3⟩:=o42 G2 hE2
  have hE4:=hE2.trans hE4'
  obtain ⟨q4,j4,G5,hE5',hq4,hc4⟩:=o45 G4 hE4
  have hE5:=hE4.trans hE5'
  have hse2':∀Q,CallR E false H.length 46 [.slice pl l.length k1,.slice q3 t.length j3,.slice ps s.length k3,.slice q4 c.length j4] (G5++[]) Q=Q (.tuple #[.slice none 0 0,.int .i64 (checkS l t s c)]) (G5++[]):=fun Q=>refSettle_bad (lim:=H.length) (k1:=k1) (k2:=j3) (k3:=k3) (k4:=j4) ((hE5.sl hl).app _) ((hE5'.sl hq3).app _) ((hE5.sl hs).app _) (hq4.app _) (by omega) (by omega) (by omega) (by omega) ul ut us uc hck
  simp only [n18,r18,f11,f12,f26,f41,f27,f43,f28,f44,hc1,hc2,aEq,bne_self_eq_false,beq_self_eq_true,hse',hc3,hc4,hse2',hL2,SB,seval,zCa,aOp,zB,aUn,reduceCtorEq,zFr,place,zTu,zRe]
  rw [Ret_loop,zRc l18_2.eq_1]
  simp only [n18,r18,SB,seval,zCa,aOp,zB,aUn,reduceCtorEq,zFr,place,zTu,zRe]
  exact loop2 _ _ (by rfl) (by rfl) (by rfl) (by rfl) hE5
theorem std_ok [OB] {lim:Nat} {H:zH} {Q:Value→zH→Prop}:CallR E false lim 20 [] H Q=Q (.slice (some ⟨H.length,0,none⟩) 1 1) (H++[.cells false (encS ⟨1,2,3,1000⟩)]):=by
 refine runs (by decide) e20 rfl ?_
 rw [b20,c20]
 refine zRp ?_
 simp only [n20,r20,and_self,List.append_nil,encS,SB,seval,zCa,aOp,zB,aUn,reduceCtorEq,zFr,place,zTu,zRe]
theorem trm_ok [OB] {lim:Nat} {H:zH} {Q:Value→zH→Prop}:CallR E false lim 21 [] H Q=Q (.slice (some ⟨H.length,0,none⟩) 1 1) (H++[.cells false (encT ⟨1,60,2500,10000,10000,5000,30⟩)]):=by
 refine runs (by decide) e21 rfl ?_
 rw [b21,c21]
 refine zRp ?_
 simp only [n21,r21,and_self,List.append_nil,encT,SB,seval,zCa,aOp,zB,aUn,reduceCtorEq,zFr,place,zTu,zRe]
theorem snt_ok [OB] {lim:Nat} {n:Int} {H:zH} {Q:Value→zH→Prop}:CallR E false lim 22 [.int .i64 n] H Q=Q (.slice (some ⟨H.length,0,none⟩) 1 1) (H++[.cells false (encN ⟨9,1,2,3,500,n⟩)]):=by
 refine runs (by decide) e22 rfl ?_
 rw [b22,c22]
 refine zRp ?_
 simp only [n22,r22,and_self,List.append_nil,encN,SB,seval,zCa,aOp,zB,aUn,reduceCtorEq,zFr,place,zTu,zRe]
theorem one_ok [OB] {lim:Nat} {c:Clm} {H:zH} {Q:Value→zH→Prop}:CallR E false lim 19 [.agg (encC c).toArray] H Q=Q (.slice (some ⟨H.length+1,0,none⟩) 1 1) (H++[.cells false (encC c),.cells false (encC c)]):=by
 refine runs (by decide) e19 rfl ?_
 rw [b19,c19]
 refine zRp ?_
 simp only [n19,r19,and_self,List.append_nil,encC,SB,seval,zCa,aOp,zB,aUn,reduceCtorEq,zFr,place,zTu,zRe]
theorem sl1 {α:Type} {enc:α→List Value} {e b:Nat} {x:α} {H:zH} (he:∀x,(enc x).length=e) (h:zG H b=.cells false (enc x)):Sl H enc e (some ⟨b,0,none⟩) [x]:=Sl.row (ro:=false) he (by rw [h];simp)
theorem kind_loop [OB] {lim:Nat} {d k a:Int} {G0:zH} {fr:Nat→Value} {K:List zAi} {Z:Value→zH→Prop} (hl:lim≤G0.length)
  (f1:fr 1=.func (.func 19) #[] #[]) (f4:fr 4=.int .i64 d) (f5:fr 5=.int .i64 k) (f7:fr 7=.int .i64 a) (f8:fr 8=.int .u8 1)
  (hR:∀fr' G',Ext G0 G'→(∀j,j≤53→j≠8→j≠9→fr' j=fr j)→Ret E a7 lim K fr' (G'++[]) Z) :
  Ret E a7 lim (.code (.loop l7_2)::.inBlock 8::K) fr (G0++[]) Z:=by
 refine zRr (fun i:Nat=>3-i) (fun i fr' G'=>1≤i∧i≤3∧Ext G0 G'∧fr' 8=.int .u8 (i:Int)∧(∀j,j≤53→j≠8→j≠9→fr' j=fr j)) 1
  ⟨by decide,by decide,Ext.refl.app,by rw [f8];rfl,fun _ _ _ _=>rfl⟩ ?_
 intro i fr' G ⟨h1,h3,hE,g8,hfr⟩ hN
 rw [zRc l7_2.eq_1]
 refine zRp ?_
 have hle:=hE.len
 have g1:=(hfr 1 (by decide) (by decide) (by decide)).trans f1
 have g4:=(hfr 4 (by decide) (by decide) (by decide)).trans f4
 have g5:=(hfr 5 (by decide) (by decide) (by decide)).trans f5
 have g7:=(hfr 7 (by decide) (by decide) (by decide)).trans f7
 by_cases hlt:i<3
 case neg=>
  obtain rfl:i=3:=by omega
  have h32:¬((3:Nat):Int)≤2:=by decide
  simp only [n7,r7,g8,eq_false h32,SB,seval,zCa,aOp,zB,aUn,reduceCtorEq,zFr,place,zTu,zRe]
  exact hR _ _ hE fun j hj h8 h9=>by
   rw [←hfr j hj h8 h9]
   simp only [upd]
   repeat rw [if_neg (by omega)]
 have hi2:(i:Int)≤2:=by omega
 have hlG:lim≤G.length:=by omega
 have w8:IntKind.u8.wrap ((i:Int)+1)=((i+1:Nat):Int):=by rcases (show i=1∨i=2 by omega) with rfl | rfl<;>decide
 obtain ⟨m,hm⟩:∃m,aMinMaxAll true (.int .i64 a) [.int .i64 0]=some (.int .i64 m):=by simp [aMinMaxAll,aMinMax]
 obtain ⟨v,hv⟩:∃v,IntKind.i64.wrap (4998+IntKind.i64.wrap (2*k))=v:=⟨_,rfl⟩
 have on:=fun (lim:Nat) (H:zH) (Q:Value→zH→Prop)=>one_ok (lim:=lim) (c:=⟨1,9,m,(i:Int),101,v⟩) (H:=H) (Q:=Q)
 simp only [encC] at on
 simp only [n7,r7,g1,g4,g5,g7,g8,eq_true hi2,hm,hv,std_ok,trm_ok,snt_ok,on,zSa,hlG,SB,seval,zCa,aOp,zB,aUn,reduceCtorEq,zFr,place,zTu,zRe]
 refine Eq.mpr (tells_ok (l:=[⟨1,2,3,1000⟩]) (t:=[⟨1,60,2500,10000,10000,5000,30⟩]) (s:=[⟨9,1,2,3,500,d⟩]) (c:=[⟨1,9,m,(i:Int),101,v⟩]) (sl1 zEl (by rw [zHw];rfl)) (sl1 encT_len (by rw [zHw];rfl)) (sl1 encN_len (by rw [zHw];rfl)) (sl1 encC_len (by rw [zHw];rfl)) (by simp) (by simp) (by simp) (by simp) (by simp) (by simp) (by simp) (by simp;omega) (fun _ h=>by cases h)) ?_
 simp only [n7,r7,g8,w8,List.append_nil,SB,seval,zCa,aOp,zB,aUn,reduceCtorEq,zFr,place,zTu,zRe]
 refine zRp (hN (i+1) _ _ ⟨by omega,by omega,(hE.app).app,by rfl,fun j hj h8 h9=>?_⟩ (by omega))
 rw [←hfr j hj h8 h9]
 simp only [upd]
 repeat rw [if_neg (by omega)]
theorem zIl (x:Int):(encI x).length=1:=rfl
section
variable {lim:Nat} {d k:Int} {G0:zH} {fr:Nat→Value} {K:List zAi} {Z:Value→zH→Prop}
theorem at_loop [OB] {l:List Int} {p:Option Addr} {n c:Nat} (hs:Sl G0 encI 1 p l) (hn:l.length=n) (hn9:n<100) (hl:lim≤G0.length)
  (f1:fr 1=.func (.func 19) #[] #[]) (f4:fr 4=.int .i64 d) (f5:fr 5=.int .i64 k) (f51:fr 51=.slice p n c) (f52:fr 52=.int .i64 (n:Int)) (f53:fr 53=.int .i64 0)
  (hR:∀fr' G',Ext G0 G'→(∀j,j≤49→j≠7→j≠8→j≠9→fr' j=fr j)→Ret E a7 lim K fr' (G'++[]) Z) :
  Ret E a7 lim (.code (.loop l7_3)::.inBlock 6::K) fr (G0++[]) Z:=by
 refine zRr (fun i:Nat=>n-i) (fun i fr' G'=>i≤n∧Ext G0 G'∧fr' 53=.int .i64 (i:Int)∧(∀j,j≤52→j≠7→j≠8→j≠9→fr' j=fr j)) 0
  ⟨Nat.zero_le _,Ext.refl.app,by rw [f53];rfl,fun _ _ _ _ _=>rfl⟩ ?_
 intro i fr' G ⟨hi,hE,g53,hfr⟩ hN
 rw [zRc l7_3.eq_1]
 refine zRp ?_
 have hle:=hE.len
 have g1:=(hfr 1 (by decide) (by decide) (by decide) (by decide)).trans f1
 have g4:=(hfr 4 (by decide) (by decide) (by decide) (by decide)).trans f4
 have g5:=(hfr 5 (by decide) (by decide) (by decide) (by decide)).trans f5
 have g51:=(hfr 51 (by decide) (by decide) (by decide) (by decide)).trans f51
 have g52:=(hfr 52 (by decide) (by decide) (by decide) (by decide)).trans f52
 by_cases hlt:i<n
 case neg=>
  obtain rfl:i=n:=by omega
  simp only [n7,r7,g51,g52,g53,hlt,SB,seval,zCa,aOp,zB,aUn,reduceCtorEq,zFr,place,zTu,zRe]
  exact hR _ _ hE fun j hj h7 h8 h9=>by
   rw [←hfr j (by omega) h7 h8 h9]
   simp only [upd]
   repeat rw [if_neg (by omega)]
 have hlG:lim≤G.length:=by omega
 have ld:=fun X=>((hE.sl hs).app X).loadCell0 zIl (i:=i) (by omega) (by decide)
 simp only [encI,List.getElem?_cons_zero] at ld
 have ix:=fun c (kk:IntKind) (H1:zH)=>(hE.sl hs).idx (c:=c) (k:=kk) (H1:=H1) (i:=i) (by omega)
 rw [hn] at ix
 have wi:IntKind.i64.wrap ((i:Int)+1)=((i+1:Nat):Int):=zWn (by omega)
 simp only [n7,r7,g1,g4,g5,g51,g52,g53,hlt,ld,ix,hlG,SB,seval,zCa,aOp,zB,aUn,reduceCtorEq,zFr,place,zTu,zRe]
 refine kind_loop (d:=d) (k:=k) (a:=gt l i) hlG (by exact g1) (by exact g4) (by exact g5) (by rfl) (by rfl) fun fr2 G2 hE2 hf2=>?_
 have q53:=(hf2 53 (by decide) (by decide) (by decide)).trans (by exact g53)
 simp only [n7,r7,q53,wi,SB,seval,zCa,aOp,zB,aUn,reduceCtorEq,zFr,place,zTu,zRe]
 exact zRp (hN (i+1) _ _ ⟨by omega,((hE.trans hE2).app).app,by rfl,fun j hj h7 h8 h9=>by
  have e:=hf2 j (by omega) h8 h9
  simp only [upd] at e⊢
  repeat rw [if_neg (by omega)] at e
  repeat rw [if_neg (by omega)]
  rw [e]
  exact hfr j hj h7 h8 h9⟩ (by omega))
theorem k_loop [OB] (hl:lim≤G0.length) (f1:fr 1=.func (.func 19) #[] #[]) (f4:fr 4=.int .i64 d) (f5:fr 5=.int .i64 (-2))
  (hR:∀fr' G',Ext G0 G'→(∀j,j≤35→j≠5→j≠7→j≠8→j≠9→fr' j=fr j)→Ret E a7 lim K fr' (G'++[]) Z) :
  Ret E a7 lim (.code (.loop l7_4)::.inBlock 4::K) fr (G0++[]) Z:=by
 refine zRr (fun i:Nat=>5-i) (fun i fr' G'=>i≤5∧Ext G0 G'∧fr' 5=.int .i64 ((i:Int)-2)∧(∀j,j≤35→j≠5→j≠7→j≠8→j≠9→fr' j=fr j)) 0
  ⟨Nat.zero_le _,Ext.refl.app,by rw [f5];rfl,fun _ _ _ _ _ _=>rfl⟩ ?_
 intro i fr' G ⟨hi,hE,g5,hfr⟩ hN
 rw [zRc l7_4.eq_1]
 refine zRp ?_
 have hle:=hE.len
 have g1:=(hfr 1 (by decide) (by decide) (by decide) (by decide) (by decide)).trans f1
 have g4:=(hfr 4 (by decide) (by decide) (by decide) (by decide) (by decide)).trans f4
 by_cases hlt:i<5
 case neg=>
  obtain rfl:i=5:=by omega
  have h3:¬((5:Nat):Int)-2<3:=by decide
  simp only [n7,r7,g5,eq_false h3,SB,seval,zCa,aOp,zB,aUn,reduceCtorEq,zFr,place,zTu,zRe]
  exact hR _ _ hE fun j hj h5 h7 h8 h9=>by
   rw [←hfr j (by omega) h5 h7 h8 h9]
   simp only [upd]
   repeat rw [if_neg (by omega)]
 have h3:(i:Int)-2<3:=by omega
 have hlG:lim≤G.length:=by omega
 have wi:IntKind.i64.wrap ((i:Int)-2+1)=((i+1:Nat):Int)-2:=by rw [zWi (by omega) (by omega)];omega
 obtain ⟨z1,e1⟩:∃z,IntKind.i64.wrap (2879+((i:Int)-2))=z:=⟨_,rfl⟩
 obtain ⟨z2,e2⟩:∃z,IntKind.i64.wrap (2939+((i:Int)-2))=z:=⟨_,rfl⟩
 obtain ⟨z3,e3⟩:∃z,IntKind.i64.wrap (d+((i:Int)-2))=z:=⟨_,rfl⟩
 obtain ⟨z4,e4⟩:∃z,IntKind.i64.wrap (12879+((i:Int)-2))=z:=⟨_,rfl⟩
 obtain ⟨z5,e5⟩:∃z,IntKind.i64.wrap (46079+((i:Int)-2))=z:=⟨_,rfl⟩
 simp only [n7,r7,g1,g4,g5,eq_true h3,e1,e2,e3,e4,e5,zSa,hlG,SB,seval,zCa,aOp,zB,aUn,reduceCtorEq,zFr,place,zTu,zRe]
 refine zRp (at_loop (d:=d) (k:=(i:Int)-2) (l:=[z1,z2,z3,z4,z5]) (n:=5) (G0:=G++[Blk.cells false ([z1,z2,z3,z4,z5].flatMap encI)]) (Sl.row (ro:=false) zIl (by rw [zHn];rfl)) rfl (by decide) (by simp;omega) (by exact g1) (by exact g4) (by exact g5) (by rfl) (by rfl) (by rfl) fun fr2 G2 hE2 hf2=>?_)
 have q5:=(hf2 5 (by decide) (by decide) (by decide) (by decide)).trans (by exact g5)
 simp only [n7,r7,q5,wi,SB,seval,zCa,aOp,zB,aUn,reduceCtorEq,zFr,place,zTu,zRe]
 exact zRp (hN (i+1) _ _ ⟨by omega,((hE.app.trans hE2).app).app,by rfl,fun j hj h5 h7 h8 h9=>by
  have e:=hf2 j (by omega) h7 h8 h9
  simp only [upd] at e⊢
  repeat rw [if_neg (by omega)] at e
  repeat rw [if_neg (by omega)]
  rw [e]
  exact hfr j hj h5 h7 h8 h9⟩ (by omega))
theorem d_loop [OB] {l:List Int} {p:Option Addr} {n c:Nat} (hs:Sl G0 encI 1 p l) (hn:l.length=n) (hn9:n<100) (hl:lim≤G0.length)
  (f1:fr 1=.func (.func 19) #[] #[]) (f30:fr 30=.slice p n c) (f31:fr 31=.int .i64 (n:Int)) (f32:fr 32=.int .i64 0)
  (hR:∀fr' G',Ext G0 G'→(∀j,j≤3→fr' j=fr j)→Ret E a7 lim K fr' (G'++[]) Z) :
  Ret E a7 lim (.code (.loop l7_5)::.inBlock 2::K) fr (G0++[]) Z:=by
 refine zRr (fun i:Nat=>n-i) (fun i fr' G'=>i≤n∧Ext G0 G'∧fr' 32=.int .i64 (i:Int)∧(∀j,j≤31→j≠4→j≠5→j≠7→j≠8→j≠9→fr' j=fr j)) 0
  ⟨Nat.zero_le _,Ext.refl.app,by rw [f32];rfl,fun _ _ _ _ _ _ _=>rfl⟩ ?_
 intro i fr' G ⟨hi,hE,g32,hfr⟩ hN
 rw [zRc l7_5.eq_1]
 refine zRp ?_
 have hle:=hE.len
 have g1:=(hfr 1 (by decide) (by decide) (by decide) (by decide) (by decide) (by decide)).trans f1
 have g30:=(hfr 30 (by decide) (by decide) (by decide) (by decide) (by decide) (by decide)).trans f30
 have g31:=(hfr 31 (by decide) (by decide) (by decide) (by decide) (by decide) (by decide)).trans f31
 by_cases hlt:i<n
 case neg=>
  obtain rfl:i=n:=by omega
  simp only [n7,r7,g30,g31,g32,hlt,SB,seval,zCa,aOp,zB,aUn,reduceCtorEq,zFr,place,zTu,zRe]
  exact hR _ _ hE fun j hj=>by
   rw [←hfr j (by omega) (by omega) (by omega) (by omega) (by omega) (by omega)]
   simp only [upd]
   repeat rw [if_neg (by omega)]
 have hlG:lim≤G.length:=by omega
 have ld:=fun X=>((hE.sl hs).app X).loadCell0 zIl (i:=i) (by omega) (by decide)
 simp only [encI,List.getElem?_cons_zero] at ld
 have ix:=fun c (kk:IntKind) (H1:zH)=>(hE.sl hs).idx (c:=c) (k:=kk) (H1:=H1) (i:=i) (by omega)
 rw [hn] at ix
 have wi:IntKind.i64.wrap ((i:Int)+1)=((i+1:Nat):Int):=zWn (by omega)
 simp only [n7,r7,g1,g30,g31,g32,hlt,ld,ix,hlG,SB,seval,zCa,aOp,zB,aUn,reduceCtorEq,zFr,place,zTu,zRe]
 refine k_loop (d:=gt l i) hlG (by exact g1) (by rfl) (by rfl) fun fr2 G2 hE2 hf2=>?_
 have q32:=(hf2 32 (by decide) (by decide) (by decide) (by decide) (by decide)).trans (by exact g32)
 simp only [n7,r7,q32,wi,SB,seval,zCa,aOp,zB,aUn,reduceCtorEq,zFr,place,zTu,zRe]
 exact zRp (hN (i+1) _ _ ⟨by omega,((hE.trans hE2).app).app,by rfl,fun j hj h4 h5 h7 h8 h9=>by
  have e:=hf2 j (by omega) h5 h7 h8 h9
  simp only [upd] at e⊢
  repeat rw [if_neg (by omega)] at e
  repeat rw [if_neg (by omega)]
  rw [e]
  exact hfr j hj h4 h5 h7 h8 h9⟩ (by omega))
theorem i_loop [OB] (hl:lim≤G0.length) (f1:fr 1=.func (.func 19) #[] #[]) (f2:fr 2=.int .i64 (-3))
  (hR:∀fr' G',Ext G0 G'→Ret E a7 lim K fr' (G'++[]) Z) :
  Ret E a7 lim (.code (.loop l7_6)::.inBlock 0::K) fr (G0++[]) Z:=by
 refine zRr (fun i:Nat=>7-i) (fun i fr' G'=>i≤7∧Ext G0 G'∧fr' 2=.int .i64 ((i:Int)-3)∧fr' 1=.func (.func 19) #[] #[]) 0
  ⟨Nat.zero_le _,Ext.refl.app,by rw [f2];rfl,f1⟩ ?_
 intro i fr' G ⟨hi,hE,g2,g1⟩ hN
 rw [zRc l7_6.eq_1]
 refine zRp ?_
 have hle:=hE.len
 by_cases hlt:i<7
 case neg=>
  obtain rfl:i=7:=by omega
  have h3:¬((7:Nat):Int)-3<4:=by decide
  simp only [n7,r7,g2,eq_false h3,SB,seval,zCa,aOp,zB,aUn,reduceCtorEq,zFr,place,zTu,zRe]
  exact hR _ _ hE
 have h3:(i:Int)-3<4:=by omega
 have hlG:lim≤G.length:=by omega
 have wi:IntKind.i64.wrap ((i:Int)-3+1)=((i+1:Nat):Int)-3:=by rw [zWi (by omega) (by omega)];omega
 obtain ⟨z1,e1⟩:∃z,IntKind.i64.wrap (1500+((i:Int)-3))=z:=⟨_,rfl⟩
 obtain ⟨z2,e2⟩:∃z,IntKind.i64.wrap (2879+((i:Int)-3))=z:=⟨_,rfl⟩
 obtain ⟨z3,e3⟩:∃z,IntKind.i64.wrap (2939+((i:Int)-3))=z:=⟨_,rfl⟩
 obtain ⟨z4,e4⟩:∃z,IntKind.i64.wrap (4379+((i:Int)-3))=z:=⟨_,rfl⟩
 obtain ⟨z5,e5⟩:∃z,IntKind.i64.wrap (8699+((i:Int)-3))=z:=⟨_,rfl⟩
 obtain ⟨z6,e6⟩:∃z,IntKind.i64.wrap (12879+((i:Int)-3))=z:=⟨_,rfl⟩
 obtain ⟨z7,e7⟩:∃z,IntKind.i64.wrap (46079+((i:Int)-3))=z:=⟨_,rfl⟩
 simp only [n7,r7,g1,g2,eq_true h3,e1,e2,e3,e4,e5,e6,e7,zSa,hlG,SB,seval,zCa,aOp,zB,aUn,reduceCtorEq,zFr,place,zTu,zRe]
 refine zRp (d_loop (l:=[-1,z1,z2,z3,z4,z5,z6,z7]) (n:=8) (G0:=G++[Blk.cells false ([-1,z1,z2,z3,z4,z5,z6,z7].flatMap encI)]) (Sl.row (ro:=false) zIl (by rw [zHn];rfl)) rfl (by decide) (by simp;omega) (by exact g1) (by rfl) (by rfl) (by rfl) fun fr2 G2 hE2 hf2=>?_)
 have q2:=(hf2 2 (by decide)).trans (by exact g2)
 have q1:=(hf2 1 (by decide)).trans (by exact g1)
 simp only [n7,r7,q2,wi,SB,seval,zCa,aOp,zB,aUn,reduceCtorEq,zFr,place,zTu,zRe]
 exact zRp (hN (i+1) _ _ ⟨by omega,((hE.app.trans hE2).app).app,by rfl,(by exact q1)⟩ (by omega))
end
def trmAt (k:Nat):Trm:=⟨IntKind.u8.wrap (IntKind.i64.wrap ((k:Int)+1)),0,0,0,0,0,0⟩
def trmsN (n:Nat):List Trm:=(List.range n).map trmAt
theorem trmsN_len (n:Nat):(trmsN n).length=n:=by simp [trmsN]
theorem trmsN_succ (n:Nat):trmsN (n+1)=trmsN n++[trmAt n]:=by simp [trmsN,List.range_succ]
theorem wrap8 (n:Int):0≤IntKind.u8.wrap n∧IntKind.u8.wrap n<256:=by
 simp only [IntKind.wrap,IntKind.bits,IntKind.signed]
 constructor
 ·simp;exact Int.emod_nonneg _ (by decide)
 ·simp;exact Int.emod_lt_of_pos _ (by decide)
section
variable {lim:Nat} {G0:zH} {fr:Nat→Value} {K:List zAi} {Z:Value→zH→Prop}
theorem trm_loop [OB] {n:Nat} (hn:n≤2001) (hl:lim≤G0.length) (f2:fr 2=.int .i64 (n:Int)) (f3:fr 3=.slice none 0 0) (f4:fr 4=.int .i64 0)
  (hR:∀fr' G' p c,Chg [] G0 G'→Own G0.length G' encT 7 p c (trmsN n)→fr' 3=.slice p n c→(∀j,j≤20→j≠3→j≠4→fr' j=fr j)→Ret E a24 lim K fr' (G'++[]) Z) :
  Ret E a24 lim (.code (.loop l24_4)::.inBlock 2::K) fr (G0++[]) Z:=by
 refine zRr (fun s:Nat×Option Addr×Nat=>n-s.1) (fun s fr' G'=>s.1≤n∧Chg [] G0 G'∧Own G0.length G' encT 7 s.2.1 s.2.2 (trmsN s.1)∧fr' 3=.slice s.2.1 s.1 s.2.2∧fr' 4=.int .i64 (s.1:Int)∧(∀j,j≤20→j≠3→j≠4→fr' j=fr j)) (0,none,0)
  ⟨Nat.zero_le _,Chg.refl.app,Own.nil,f3,by rw [f4];rfl,fun _ _ _ _=>rfl⟩ ?_
 rintro ⟨i,p,c⟩ fr' G ⟨hi,hC,hO,g3,g4,hfr⟩ hN
 simp only at hi hO g3 g4
 rw [zRc l24_4.eq_1]
 refine zRp ?_
 have g2:=(hfr 2 (by decide) (by decide) (by decide)).trans f2
 have hle:=hC.len
 by_cases hlt:i<n
 case neg=>
  obtain rfl:i=n:=by omega
  simp only [n24,r24,g2,g3,g4,hlt,SB,seval,zCa,aOp,zB,aUn,reduceCtorEq,zFr,place,zTu,zRe]
  exact hR _ G p c hC hO (by exact g3) fun j hj h3 h4=>by
   rw [←hfr j hj h3 h4]
   simp only [upd]
   repeat rw [if_neg (by omega)]
 have hlG:lim≤G.length:=by omega
 have wi:IntKind.i64.wrap ((i:Int)+1)=((i+1:Nat):Int):=zWn (by omega)
 obtain ⟨x,hx⟩:∃x,IntKind.u8.wrap ((i+1:Nat):Int)=x:=⟨_,rfl⟩
 have ex:encT (trmAt i)=[.int .u8 x,.int .i64 0,.int .i64 0,.int .i64 0,.int .i64 0,.int .i64 0,.int .i64 0]:=by rw [←hx,←wi];rfl
 obtain ⟨G2,h1,h2,h3,_,h5,_⟩:=hO.step (lim':=lim) (bytes:=56) hl encT_len (by decide) (trmAt i) (by rw [trmsN_len];unfold maxBytes;omega) (by rw [trmsN_len];omega) hle [.cells false (encT (trmAt i))] G.length 1 (zHn.trans rfl)
 rw [trmsN_len,ex] at h1
 rw [←trmsN_succ] at h2
 simp only [List.length_cons,List.length_nil,Nat.zero_add] at h1 h2
 simp only [n24,r24,g2,g3,g4,hlt,wi,hx,zSa,hlG,h1,SB,seval,zCa,aOp,zB,aUn,reduceCtorEq,zFr,place,zTu,zRe]
 refine hN (i+1,some ⟨G.length+1,0,none⟩,loose 7) _ _ ⟨by show i+1≤n;omega,h3 [] G0 (Nat.le_refl _) hC,h2,(by rfl),by rfl,fun j hj h3 h4=>by
  rw [←hfr j hj h3 h4]
  simp only [upd]
  repeat rw [if_neg (by omega)]⟩ (by show n-(i+1)<n-i;omega)
theorem trms_loop [OB] {l:List Int} {p:Option Addr} {m c:Nat} (hs:Sl G0 encI 1 p l) (hm:l.length=m) (hm9:m<100) (hb:∀x∈l,0≤x∧x≤2001) (hl:lim≤G0.length)
  (f15:fr 15=.slice p m c) (f16:fr 16=.int .i64 (m:Int)) (f17:fr 17=.int .i64 0)
  (hR:∀fr' G',Chg [] G0 G'→Ret E a24 lim K fr' (G'++[]) Z) :
  Ret E a24 lim (.code (.loop l24_5)::.inBlock 0::K) fr (G0++[]) Z:=by
 refine zRr (fun i:Nat=>m-i) (fun i fr' G'=>i≤m∧Chg [] G0 G'∧fr' 15=.slice p m c∧fr' 16=.int .i64 (m:Int)∧fr' 17=.int .i64 (i:Int)) 0
  ⟨Nat.zero_le _,Chg.refl.app,f15,f16,by rw [f17];rfl⟩ ?_
 intro i fr' G ⟨hi,hC,g15,g16,g17⟩ hN
 rw [zRc l24_5.eq_1]
 refine zRp ?_
 have hle:=hC.len
 by_cases hlt:i<m
 case neg=>
  obtain rfl:i=m:=by omega
  simp only [n24,r24,g15,g16,g17,hlt,SB,seval,zCa,aOp,zB,aUn,reduceCtorEq,zFr,place,zTu,zRe]
  exact hR _ G hC
 have hlG:lim≤G.length:=by omega
 have hE:=hC.ext
 have ld:=fun X=>((hE.sl hs).app X).loadCell0 zIl (i:=i) (by omega) (by decide)
 simp only [encI,List.getElem?_cons_zero] at ld
 have ix:=fun c (kk:IntKind) (H1:zH)=>(hE.sl hs).idx (c:=c) (k:=kk) (H1:=H1) (i:=i) (by omega)
 rw [hm] at ix
 have wi:IntKind.i64.wrap ((i:Int)+1)=((i+1:Nat):Int):=zWn (by omega)
 have hx:=hb _ (gt_mem (l:=l) (i:=i) (by omega))
 obtain ⟨n,hn⟩:∃n:Nat,gt l i=(n:Int):=⟨(gt l i).toNat,by omega⟩
 rw [hn] at ld hx
 have hn2:n≤2001:=by omega
 simp only [n24,r24,g15,g16,g17,hlt,ld,ix,hlG,SB,seval,zCa,aOp,zB,aUn,reduceCtorEq,zFr,place,zTu,zRe]
 refine trm_loop hn2 hlG (by rfl) (by rfl) (by rfl) fun fr2 G2 p2 c2 hC2 hO2 h3 hf2=>?_
 have q15:=(hf2 15 (by decide) (by decide) (by decide)).trans (by exact g15)
 have q16:=(hf2 16 (by decide) (by decide) (by decide)).trans (by exact g16)
 have q17:=(hf2 17 (by decide) (by decide) (by decide)).trans (by exact g17)
 have sO:=hO2.sl encT_len
 obtain ⟨p3,k3,Y,s3,h42⟩:=otherTerms_ok (lim:=lim) (cap:=c2) sO (by rw [trmsN_len];omega) (by have:=hC2.len;omega)
 have f26:=fun mp lim X Q=>RightTerms_ok mp lim (cap:=c2) (Q:=Q) (sO.app X) (by rw [trmsN_len];omega)
 have f41:=fun mp lim X Q=>refRightTerms_ok mp lim (cap:=k3) (Q:=Q) (s3.app X) (by rw [trmsN_len];omega) (fun x hx=>by
  unfold trmsN at hx
  obtain ⟨k,_,rfl⟩:=List.mem_map.1 hx
  exact (wrap8 _).1)
 obtain ⟨G3,hG3⟩:∃G3,G3=G2++Y:=⟨_,rfl⟩
 rw [←hG3] at f41
 have h42':∀Q,CallR E false lim 42 [.slice p2 n c2] (G2++[]) Q=Q (.slice p3 n k3) (G3++[]):=fun Q=>by
  have:=h42 Q
  rw [trmsN_len,←hG3] at this
  rw [List.append_nil,List.append_nil];exact this
 rw [trmsN_len] at f26 f41
 simp only [n24,r24,h3,f26,f41,h42',aEq,bne_self_eq_false,beq_self_eq_true,q17,wi,SB,seval,zCa,aOp,zB,aUn,reduceCtorEq,zFr,place,zTu,zRe]
 refine zRp (hN (i+1) _ _ ⟨by omega, ?_,(by exact q15),(by exact q16),by rfl⟩ (by omega))
 rw [hG3]
 exact (((hC.trans hC2).app).app).app
end
def stdAt (k:Nat):Std:=⟨IntKind.u8.wrap (IntKind.i64.wrap (1+IntKind.i64.wrap ((k:Int).tdiv 1000))),IntKind.i64.wrap (1+IntKind.i64.wrap ((k:Int).tdiv 30)),IntKind.i64.wrap (1+(k:Int).tmod 30),0⟩
def sntAt (n k:Nat):Snt:=⟨IntKind.i64.wrap ((n:Int)-k),1,1,1,0,-1⟩
def clmAt (n k:Nat):Clm:=⟨IntKind.i64.wrap ((n:Int)-k),1,0,1,0,0⟩
def stdsN (m:Nat):List Std:=(List.range m).map stdAt
def sntsN (n m:Nat):List Snt:=(List.range m).map (sntAt n)
def clmsN (n m:Nat):List Clm:=(List.range m).map (clmAt n)
theorem stdsN_len (n:Nat):(stdsN n).length=n:=by simp [stdsN]
theorem sntsN_len (n m:Nat):(sntsN n m).length=m:=by simp [sntsN]
theorem clmsN_len (n m:Nat):(clmsN n m).length=m:=by simp [clmsN]
theorem stdsN_succ (n:Nat):stdsN (n+1)=stdsN n++[stdAt n]:=by simp [stdsN,List.range_succ]
theorem sntsN_succ (n m:Nat):sntsN n (m+1)=sntsN n m++[sntAt n m]:=by simp [sntsN,List.range_succ]
theorem clmsN_succ (n m:Nat):clmsN n (m+1)=clmsN n m++[clmAt n m]:=by simp [clmsN,List.range_succ]
theorem own_other {α:Type} {lim e cap:Nat} {G G':zH} {enc:α→List Value} {p q:Option Addr} {l:List α} (h:Own lim G enc e q cap l) (hk:∀j,j<G.length→(∀a,p=some a→j≠a.block)→zG G' j=zG G j) (hpq:∀a b,q=some a→p=some b→a.block≠b.block):Own lim G' enc e q cap l:=by
 rcases h with h | ⟨R,rfl,h1,h2,h3⟩
 ·exact .inl h
 ·exact .inr ⟨R,rfl,h1,by rw [hk R (zHa h2) fun a ea=>hpq _ _ rfl ea];exact h2,h3⟩
theorem own_lt {α:Type} {lim e cap:Nat} {G:zH} {enc:α→List Value} {q:Option Addr} {l:List α} (h:Own lim G enc e q cap l):∀a,q=some a→a.block<G.length:=fun a ea=>by
 rcases h with ⟨_,h,_⟩ | ⟨R,h,_,h2,_⟩
 ·rw [h] at ea;cases ea
 ·rw [h] at ea;cases ea;exact zHa h2
structure Tri (h0:Nat) (G:zH) (p7 p8 p9:Option Addr) (c7 c8 c9:Nat) (a:List Std) (b:List Snt) (c:List Clm):Prop where
 o7:Own h0 G encS 4 p7 c7 a
 o8:Own h0 G encN 6 p8 c8 b
 o9:Own h0 G encC 6 p9 c9 c
 n78:∀x y,p7=some x→p8=some y→x.block≠y.block
 n79:∀x y,p7=some x→p9=some y→x.block≠y.block
 n89:∀x y,p8=some x→p9=some y→x.block≠y.block
section
variable {lim:Nat} {G0:zH} {fr:Nat→Value} {K:List zAi} {Z:Value→zH→Prop}
theorem tri_loop [OB] {n:Nat} (hn:n≤2001) (hl:lim≤G0.length) (f6:fr 6=.int .i64 (n:Int)) (f7:fr 7=.slice none 0 0) (f8:fr 8=.slice none 0 0) (f9:fr 9=.slice none 0 0) (f10:fr 10=.int .i64 0)
  (hR:∀fr' G' p7 p8 p9 c7 c8 c9,Chg [] G0 G'→Tri G0.length G' p7 p8 p9 c7 c8 c9 (stdsN n) (sntsN n n) (clmsN n n)→fr' 7=.slice p7 n c7→fr' 8=.slice p8 n c8→fr' 9=.slice p9 n c9→(∀j,j≤45→j≠7→j≠8→j≠9→j≠10→fr' j=fr j)→Ret E a24 lim K fr' (G'++[]) Z) :
  Ret E a24 lim (.code (.loop l24_2)::.inBlock 6::K) fr (G0++[]) Z:=by
 refine zRr (fun s:Nat×(Option Addr×Option Addr×Option Addr)×(Nat×Nat×Nat)=>n-s.1) (fun s fr' G'=>s.1≤n∧Chg [] G0 G'∧Tri G0.length G' s.2.1.1 s.2.1.2.1 s.2.1.2.2 s.2.2.1 s.2.2.2.1 s.2.2.2.2 (stdsN s.1) (sntsN n s.1) (clmsN n s.1)∧fr' 7=.slice s.2.1.1 s.1 s.2.2.1∧fr' 8=.slice s.2.1.2.1 s.1 s.2.2.2.1∧fr' 9=.slice s.2.1.2.2 s.1 s.2.2.2.2∧fr' 10=.int .i64 (s.1:Int)∧(∀j,j≤45→j≠7→j≠8→j≠9→j≠10→fr' j=fr j)) (0,(none,none,none),(0,0,0))
  ⟨Nat.zero_le _,Chg.refl.app,⟨Own.nil,Own.nil,Own.nil,fun _ _ h=>(by cases h),fun _ _ h=>(by cases h),fun _ _ h=>(by cases h)⟩,f7,f8,f9,by rw [f10];rfl,fun _ _ _ _ _ _=>rfl⟩ ?_
 rintro ⟨i,⟨p7,p8,p9⟩,c7,c8,c9⟩ fr' G ⟨hi,hC,hT,g7,g8,g9,g10,hfr⟩ hN
 simp only at hi hT g7 g8 g9 g10
 rw [zRc l24_2.eq_1]
 refine zRp ?_
 have g6:=(hfr 6 (by decide) (by decide) (by decide) (by decide) (by decide)).trans f6
 have hle:=hC.len
 by_cases hlt:i<n
 case neg=>
  obtain rfl:i=n:=by omega
  simp only [n24,r24,g6,g7,g8,g9,g10,hlt,SB,seval,zCa,aOp,zB,aUn,reduceCtorEq,zFr,place,zTu,zRe]
  exact hR _ G p7 p8 p9 c7 c8 c9 hC hT (by exact g7) (by exact g8) (by exact g9) fun j hj h7 h8 h9 h10=>by
   rw [←hfr j hj h7 h8 h9 h10]
   simp only [upd]
   repeat rw [if_neg (by omega)]
 have hlG:lim≤G.length:=by omega
 have wi:IntKind.i64.wrap ((i:Int)+1)=((i+1:Nat):Int):=zWn (by omega)
 have hE:=hT
 have e7:encS (stdAt i)=[.int .u8 (IntKind.u8.wrap (IntKind.i64.wrap (1+IntKind.i64.wrap ((i:Int).tdiv 1000)))),.int .i64 (IntKind.i64.wrap (1+IntKind.i64.wrap ((i:Int).tdiv 30))),.int .i64 (IntKind.i64.wrap (1+(i:Int).tmod 30)),.int .i64 0]:=rfl
 obtain ⟨G2,h1,h2,h3,hk,hl2,_⟩:=hT.o7.step (lim':=lim) (bytes:=32) hl zEl (by decide) (stdAt i) (by rw [stdsN_len];unfold maxBytes;omega) (by rw [stdsN_len];omega) hle [.cells false (encS (stdAt i))] G.length 1 (zHn.trans rfl)
 rw [stdsN_len] at h1
 rw [←stdsN_succ] at h2
 simp only [List.length_cons,List.length_nil,Nat.zero_add] at h1 h2 hl2
 have hC2:=h3 [] G0 (Nat.le_refl _) hC
 rw [e7] at h1
 have o8:=own_other hT.o8 hk fun x y hx hy=>(hT.n78 y x hy hx).symm
 have o9:=own_other hT.o9 hk fun x y hx hy=>(hT.n79 y x hy hx).symm
 have b8:=own_lt hT.o8
 have b9:=own_lt hT.o9
 simp only [n24,r24,g6,g7,g8,g9,g10,hlt,wi,zSa,hlG,h1,SB,seval,zCa,aOp,zB,aUn,reduceCtorEq,zFr,place,zTu,zRe]
 rw [List.append_nil] at h2 o8 o9 hC2
 have hle2:=hC2.len
 have hlG2:lim≤G2.length:=by omega
 have e8:encN (sntAt n i)=[.int .i64 (IntKind.i64.wrap ((n:Int)-i)),.int .u8 1,.int .i64 1,.int .i64 1,.int .i64 0,.int .i64 (-1)]:=rfl
 obtain ⟨G3,j1,j2,j3,jk,jl,_⟩:=o8.step (lim':=lim) (bytes:=48) hl encN_len (by decide) (sntAt n i) (by rw [sntsN_len];unfold maxBytes;omega) (by rw [sntsN_len];omega) hle2 [.cells false (encN (sntAt n i))] G2.length 1 (zHn.trans rfl)
 rw [sntsN_len,e8] at j1
 rw [←sntsN_succ] at j2
 simp only [List.length_cons,List.length_nil,Nat.zero_add] at j1 j2 jl
 have hC3:=j3 [] G0 (Nat.le_refl _) hC2
 have o7':=own_other h2 jk fun x y hx hy=>by cases hx;have:=b8 y hy;show G.length+1≠y.block;omega
 have o9':=own_other o9 jk fun x y hx hy=>(hT.n89 y x hy hx).symm
 rw [List.append_nil] at j2 o7' o9' hC3
 have hle3:=hC3.len
 have hlG3:lim≤G3.length:=by omega
 have e9:encC (clmAt n i)=[.int .i64 (IntKind.i64.wrap ((n:Int)-i)),.int .i64 1,.int .i64 0,.int .u8 1,.int .i64 0,.int .i64 0]:=rfl
 obtain ⟨G4,k1,k2,k3,kk,kl,_⟩:=o9'.step (lim':=lim) (bytes:=48) hl encC_len (by decide) (clmAt n i) (by rw [clmsN_len];unfold maxBytes;omega) (by rw [clmsN_len];omega) hle3 [.cells false (encC (clmAt n i))] G3.length 1 (zHn.trans rfl)
 rw [clmsN_len,e9] at k1
 rw [←clmsN_succ] at k2
 simp only [List.length_cons,List.length_nil,Nat.zero_add] at k1 k2 kl
 have hC4:=k3 [] G0 (Nat.le_refl _) hC3
 have o7'':=own_other o7' kk fun x y hx hy=>by cases hx;have:=b9 y hy;show G.length+1≠y.block;omega
 have o8'':=own_other j2 kk fun x y hx hy=>by cases hx;have:=b9 y hy;show G2.length+1≠y.block;omega
 simp only [n24,r24,g6,g9,g10,wi,zSa,hlG2,j1,SB,seval,zCa,aOp,zB,aUn,reduceCtorEq,zFr,place,zTu,zRe]
 simp only [n24,r24,g6,g9,g10,wi,zSa,hlG3,k1,SB,seval,zCa,aOp,zB,aUn,reduceCtorEq,zFr,place,zTu,zRe]
 refine hN (i+1,(some ⟨G.length+1,0,none⟩,some ⟨G2.length+1,0,none⟩,some ⟨G3.length+1,0,none⟩),loose 4,loose 6,loose 6) _ _ ⟨by show i+1≤n;omega,hC4,⟨o7'',o8'',k2,fun x y hx hy=>?_,fun x y hx hy=>?_,fun x y hx hy=>?_⟩,(by rfl),(by rfl),(by rfl),by rfl,fun j hj h7 h8 h9 h10=>by
  rw [←hfr j hj h7 h8 h9 h10]
  simp only [upd]
  repeat rw [if_neg (by omega)]⟩ (by show n-(i+1)<n-i;omega)
 ·cases hx;cases hy;show G.length+1≠G2.length+1;omega
 ·cases hx;cases hy;show G.length+1≠G3.length+1;omega
 ·cases hx;cases hy;show G2.length+1≠G3.length+1;omega
end
theorem field_mut {α:Type} [Inhabited α] {G:zH} {enc:α→List Value} {e:Nat} {l:List α} {lim S:Nat} (he:∀x,(enc x).length=e) (hS:zG G S=.cells false (l.flatMap enc)) (hl:lim≤S) {i j:Nat} (hi:i<l.length) (hj:j<e) {v:Value} (y:α) (hy:enc y=(enc (gt l i)).set j v) :
  ∃G',(∀X,AM.storeAt lim (G++X) ((elt (some ⟨S,0,none⟩) e i).add j) [v]=some (G'++X))∧zG G' S=.cells false ((l.set i y).flatMap enc)∧Mut G G' S:=by
 obtain ⟨G',h1,h2,h3⟩:=mut_set (zHa hS) (.cells false ((l.set i y).flatMap enc))
 refine ⟨G',fun X=>?_,h2,h3⟩
 have h4:i*e+e≤l.length*e:=by
  have:=Nat.mul_le_mul_right e (Nat.succ_le_of_lt hi)
  rw [Nat.succ_mul] at this;exact this
 have hS':zG (G++X) S=.cells false (l.flatMap enc):=by rw [zHo (zHa hS)];exact hS
 simp only [elt,addrOf,Option.getD_some,addr_add,storeAt_lit,hS',Nat.zero_add,List.length_singleton]
 rw [if_pos ⟨hl,by rw [flat_len he];omega⟩,←h1]
 congr 3
 show (l.flatMap enc).set (i*e+j) v=_
 clear h1 h2 h3 hS hS' h4
 induction l generalizing i with
 | nil=>simp at hi
 | cons x l ih=>
   cases i with
   | zero=>
     rw [gt_cons_zero] at hy
     rw [Nat.zero_mul,Nat.zero_add,List.set_cons_zero,List.flatMap_cons,List.flatMap_cons,List.set_append_left _ _ (by rw [he];exact hj),hy]
   | succ i=>
     rw [zGc] at hy
     rw [List.set_cons_succ,List.flatMap_cons,List.flatMap_cons,List.set_append_right _ _ (by rw [he,Nat.succ_mul];omega),he,show (i+1)*e+j-e=i*e+j by rw [Nat.succ_mul];omega,ih (by simpa using hi) hy]
theorem gt_setG {α:Type} [Inhabited α] {l:List α} {i j:Nat} {x:α} (hi:i<l.length):gt (l.set i x) j=if j=i then x else gt l j:=by
 unfold gt
 rw [List.getD_eq_getElem?_getD,List.getD_eq_getElem?_getD,List.getElem?_set]
 by_cases e:i=j
 ·subst e;rw [if_pos rfl,if_pos hi,if_pos rfl];rfl
 ·rw [if_neg e,if_neg fun h=>e h.symm]
theorem gt_mapR {α:Type} [Inhabited α] {f:Nat→α} {n k:Nat} (h:k<n):gt ((List.range n).map f) k=f k:=by
 rw [zGl (by simpa using h)];simp
theorem right_dup {l:List Std} {i:Nat} (hi:i+1<l.length) (h:gt l (i+1)=gt l i):right l=false:=by
 by_cases hr:right l=true
 ·exfalso
  simp only [right,Bool.and_eq_true,allFrom_iff] at hr
  have h1:=hr.2 (i+1) (Nat.zero_le _) hi
  simp only [okAt,Bool.and_eq_true,Bool.or_eq_true,decide_eq_true_eq,Nat.add_sub_cancel] at h1
  rcases h1.2 with h2 | h2
  ·omega
  ·rw [h] at h2
   simp [cmpS,orL,cmpI] at h2
 ·simpa using hr
theorem rightN_dup {s:List Snt} {i j:Nat} (hij:i<j) (hj:j<s.length) (h:(gt s i).item=(gt s j).item):rightN s=false:=by
 by_cases hr:rightN s=true
 ·have h1:=List.pairwise_iff_getElem.1 (rightN_items hr) i j (by omega) hj hij
  rw [zGl (show i<s.length by omega),zGl hj] at h
  exact absurd h h1
 ·simpa using hr
theorem rightC_dup {s:List Clm} {i j:Nat} (hij:i<j) (hj:j<s.length) (h:(gt s i).id=(gt s j).id):rightC s=false:=by
 by_cases hr:rightC s=true
 ·have h1:=List.pairwise_iff_getElem.1 (rightC_ids hr) i j (by omega) hj hij
  rw [zGl (show i<s.length by omega),zGl hj] at h
  exact absurd h h1
 ·simpa using hr
theorem Tri.app {h0:Nat} {G:zH} {p7 p8 p9:Option Addr} {c7 c8 c9:Nat} {a:List Std} {b:List Snt} {c:List Clm} (h:Tri h0 G p7 p8 p9 c7 c8 c9 a b c) (X:zH):Tri h0 (G++X) p7 p8 p9 c7 c8 c9 a b c:=
 ⟨h.o7.app X,h.o8.app X,h.o9.app X,h.n78,h.n79,h.n89⟩
theorem own_at {α:Type} {lim e cap:Nat} {G:zH} {enc:α→List Value} {q:Option Addr} {l:List α} (h:Own lim G enc e q cap l) (hl:0<l.length):∃R,q=some ⟨R,0,none⟩∧cap=loose e∧zG G R=.cells false (l.flatMap enc)∧lim≤R:=by
 rcases h with ⟨h,_⟩ | h
 ·rw [h] at hl;simp at hl
 ·exact h
section
variable {lim:Nat} {G0:zH} {fr:Nat→Value} {K:List zAi} {Z:Value→zH→Prop}
theorem lists_loop [OB] {l:List Int} {p:Option Addr} {m c:Nat} (hs:Sl G0 encI 1 p l) (hm:l.length=m) (hm9:m<100) (hb:∀x∈l,2≤x∧x≤2001) (hl:lim≤G0.length)
  (f40:fr 40=.slice p m c) (f41:fr 41=.int .i64 (m:Int)) (f42:fr 42=.int .i64 0)
  (hR:∀fr' G',Chg [] G0 G'→Ret E a24 lim K fr' (G'++[]) Z) :
  Ret E a24 lim (.code (.loop l24_3)::.inBlock 4::K) fr (G0++[]) Z:=by
 refine zRr (fun i:Nat=>m-i) (fun i fr' G'=>i≤m∧Chg [] G0 G'∧fr' 40=.slice p m c∧fr' 41=.int .i64 (m:Int)∧fr' 42=.int .i64 (i:Int)) 0
  ⟨Nat.zero_le _,Chg.refl.app,f40,f41,by rw [f42];rfl⟩ ?_
 intro i fr' G ⟨hi,hC,g40,g41,g42⟩ hN
 rw [zRc l24_3.eq_1]
 refine zRp ?_
 have hle:=hC.len
 by_cases hlt:i<m
 case neg=>
  obtain rfl:i=m:=by omega
  simp only [n24,r24,g40,g41,g42,hlt,SB,seval,zCa,aOp,zB,aUn,reduceCtorEq,zFr,place,zTu,zRe]
  exact hR _ G hC
 have hlG:lim≤G.length:=by omega
 have hE:=hC.ext
 have ld:=fun X=>((hE.sl hs).app X).loadCell0 zIl (i:=i) (by omega) (by decide)
 simp only [encI,List.getElem?_cons_zero] at ld
 have ix:=fun c (kk:IntKind) (H1:zH)=>(hE.sl hs).idx (c:=c) (k:=kk) (H1:=H1) (i:=i) (by omega)
 rw [hm] at ix
 have wi:IntKind.i64.wrap ((i:Int)+1)=((i+1:Nat):Int):=zWn (by omega)
 have hx:=hb _ (gt_mem (l:=l) (i:=i) (by omega))
 obtain ⟨n,hn⟩:∃n:Nat,gt l i=(n:Int):=⟨(gt l i).toNat,by omega⟩
 rw [hn] at ld hx
 have hn2:n≤2001:=by omega
 simp only [n24,r24,g40,g41,g42,hlt,ld,ix,hlG,SB,seval,zCa,aOp,zB,aUn,reduceCtorEq,zFr,place,zTu,zRe]
 refine tri_loop hn2 hlG (by rfl) (by rfl) (by rfl) (by rfl) (by rfl) fun fr2 G2 p7 p8 p9 c7 c8 c9 hC2 hT h7 h8 h9 hf2=>?_
 have q40:=(hf2 40 (by decide) (by decide) (by decide) (by decide) (by decide)).trans (by exact g40)
 have q41:=(hf2 41 (by decide) (by decide) (by decide) (by decide) (by decide)).trans (by exact g41)
 have q42:=(hf2 42 (by decide) (by decide) (by decide) (by decide) (by decide)).trans (by exact g42)
 have q6:=(hf2 6 (by decide) (by decide) (by decide) (by decide) (by decide)).trans (by rfl)
 have hle2:=hC2.len
 have s7:=hT.o7.sl zEl
 have s8:=hT.o8.sl encN_len
 have s9:=hT.o9.sl encC_len
 obtain ⟨pz,kz,Y,sz,h45⟩:=others_ok (lim:=lim) (cap:=c9) s9 (by rw [clmsN_len];omega) (by omega)
 have u7:∀x∈stdsN n,0≤x.cls:=fun x hx=>by
  obtain ⟨k,_,rfl⟩:=List.mem_map.1 hx
  exact (wrap8 _).1
 have u8':∀x∈sntsN n n,0≤x.cls:=fun x hx=>by
  obtain ⟨k,_,rfl⟩:=List.mem_map.1 hx
  show (0:Int)≤1
  decide
 have u9:∀x∈clmsN n n,0≤x.kind∧x.kind<256:=fun x hx=>by
  obtain ⟨k,_,rfl⟩:=List.mem_map.1 hx
  show (0:Int)≤1∧(1:Int)<256
  decide
 have f11:=fun mp lim X Q=>Right_ok mp lim (cap:=c7) (Q:=Q) (s7.app X) (by rw [stdsN_len];omega)
 have f12:=fun mp lim X Q=>refRight_ok mp lim (cap:=c7) (Q:=Q) (s7.app X) (by rw [stdsN_len];omega) u7
 have f27:=fun mp lim X Q=>RightSent_ok mp lim (cap:=c8) (Q:=Q) (s8.app X) (by rw [sntsN_len];omega)
 have f43:=fun mp lim X Q=>refRightSent_ok mp lim (cap:=c8) (Q:=Q) (s8.app X) (by rw [sntsN_len];omega) u8'
 have f28:=fun mp lim X Q=>RightClaims_ok mp lim (cap:=c9) (Q:=Q) (s9.app X) (by rw [clmsN_len];omega)
 have f44:=fun mp lim X Q=>refRightClaims_ok mp lim (cap:=kz) (Q:=Q) (sz.app X) (by rw [clmsN_len];omega) u9
 obtain ⟨G3,hG3⟩:∃G3,G3=G2++Y:=⟨_,rfl⟩
 rw [←hG3] at f44
 have h45':∀Q,CallR E false lim 45 [.slice p9 n c9] (G2++[]) Q=Q (.slice pz n kz) (G3++[]):=fun Q=>by
  have:=h45 Q
  rw [clmsN_len,←hG3] at this
  rw [List.append_nil,List.append_nil];exact this
 have hT3:Tri G.length G3 p7 p8 p9 c7 c8 c9 (stdsN n) (sntsN n n) (clmsN n n):=hG3▸hT.app Y
 have hC3:Chg [] G0 G3:=hG3▸(hC.trans hC2).app
 rw [stdsN_len] at f11 f12
 rw [sntsN_len] at f27 f43
 rw [clmsN_len] at f28 f44
 simp only [n24,r24,h7,h8,h9,f11,f12,f27,f43,f28,f44,h45',aEq,bne_self_eq_false,beq_self_eq_true,q6,SB,seval,zCa,aOp,zB,aUn,reduceCtorEq,zFr,place,zTu,zRe]
 have w1:IntKind.i64.wrap ((n:Int)-1)=((n-1:Nat):Int):=by rw [zWi (by omega) (by omega)];omega
 have w2:IntKind.i64.wrap ((n:Int)-2)=((n-2:Nat):Int):=by rw [zWi (by omega) (by omega)];omega
 obtain ⟨R7,rfl,rfl,k7,l7⟩:=own_at hT3.o7 (by rw [stdsN_len];omega)
 obtain ⟨R8,rfl,rfl,k8,l8⟩:=own_at hT3.o8 (by rw [sntsN_len];omega)
 obtain ⟨R9,rfl,rfl,k9,l9⟩:=own_at hT3.o9 (by rw [clmsN_len];omega)
 have n78:R7≠R8:=hT3.n78 _ _ rfl rfl
 have n79:R7≠R9:=hT3.n79 _ _ rfl rfl
 have n89:R8≠R9:=hT3.n89 _ _ rfl rfl
 obtain ⟨xs,hxs⟩:∃x,gt (stdsN n) (n-2)=x:=⟨_,rfl⟩
 obtain ⟨G4,m8,j8,M8⟩:=field_mut (lim:=lim) (j:=0) (v:=.int .i64 2) encN_len k8 (by omega) (i:=n-1) (by rw [sntsN_len];omega) (by decide) { gt (sntsN n n) (n-1) with item:=2 } rfl
 obtain ⟨G5,m9,j9,M9⟩:=field_mut (lim:=lim) (j:=0) (v:=.int .i64 2) encC_len ((M8.other R9 n89.symm).trans k9) (by omega) (i:=n-1) (by rw [clmsN_len];omega) (by decide) { gt (clmsN n n) (n-1) with id:=2 } rfl
 obtain ⟨G6,m7,j7,M7⟩:=store_mut (lim:=lim) zEl rfl ((M9.other R7 n79).trans ((M8.other R7 n78).trans k7)) (by omega) (i:=n-1) (by rw [stdsN_len];omega) xs
 have sl7:Sl G3 encS 4 (some ⟨R7,0,none⟩) (stdsN n):=Sl.row zEl k7
 have sl8:Sl G3 encN 6 (some ⟨R8,0,none⟩) (sntsN n n):=Sl.row encN_len k8
 have sl9:Sl G3 encC 6 (some ⟨R9,0,none⟩) (clmsN n n):=Sl.row encC_len k9
 have ld7:=fun X=>(sl7.app X).loadCells zEl (i:=n-2) (by rw [stdsN_len];omega)
 rw [hxs] at ld7
 have i7a:=fun c (kk:IntKind) (H1:zH)=>sl7.idx (c:=c) (k:=kk) (H1:=H1) (i:=n-2) (by rw [stdsN_len];omega)
 have i7b:=fun c (kk:IntKind) (H1:zH)=>sl7.idx (c:=c) (k:=kk) (H1:=H1) (i:=n-1) (by rw [stdsN_len];omega)
 have i8:=fun c (kk:IntKind) (H1:zH)=>sl8.idx (c:=c) (k:=kk) (H1:=H1) (i:=n-1) (by rw [sntsN_len];omega)
 have i9:=fun c (kk:IntKind) (H1:zH)=>sl9.idx (c:=c) (k:=kk) (H1:=H1) (i:=n-1) (by rw [clmsN_len];omega)
 rw [stdsN_len] at i7a i7b
 rw [sntsN_len] at i8
 rw [clmsN_len] at i9
 have t7:Sl G6 encS 4 (some ⟨R7,0,none⟩) ((stdsN n).set (n-1) xs):=Sl.row zEl j7
 have t8:Sl G6 encN 6 (some ⟨R8,0,none⟩) ((sntsN n n).set (n-1) { gt (sntsN n n) (n-1) with item:=2 }):=Sl.row encN_len ((M7.other R8 n78.symm).trans ((M9.other R8 n89).trans j8))
 have t9:Sl G6 encC 6 (some ⟨R9,0,none⟩) ((clmsN n n).set (n-1) { gt (clmsN n n) (n-1) with id:=2 }):=Sl.row encC_len ((M7.other R9 n79.symm).trans j9)
 have r7:right ((stdsN n).set (n-1) xs)=false:=by
  refine right_dup (i:=n-2) (by rw [List.length_set,stdsN_len];omega) ?_
  rw [gt_setG (by rw [stdsN_len];omega),gt_setG (by rw [stdsN_len];omega),if_pos (by omega),if_neg (by omega),hxs]
 have wq:IntKind.i64.wrap ((n:Int)-((n-2:Nat):Int))=2:=by rw [zWi (by omega) (by omega)];omega
 have r8:rightN ((sntsN n n).set (n-1) { gt (sntsN n n) (n-1) with item:=2 })=false:=by
  refine rightN_dup (i:=n-2) (j:=n-1) (by omega) (by rw [List.length_set,sntsN_len];omega) ?_
  rw [gt_setG (by rw [sntsN_len];omega),gt_setG (by rw [sntsN_len];omega),if_neg (by omega),if_pos rfl]
  unfold sntsN
  rw [gt_mapR (by omega)]
  exact wq
 have r9:rightC ((clmsN n n).set (n-1) { gt (clmsN n n) (n-1) with id:=2 })=false:=by
  refine rightC_dup (i:=n-2) (j:=n-1) (by omega) (by rw [List.length_set,clmsN_len];omega) ?_
  rw [gt_setG (by rw [clmsN_len];omega),gt_setG (by rw [clmsN_len];omega),if_neg (by omega),if_pos rfl]
  unfold clmsN
  rw [gt_mapR (by omega)]
  exact wq
 have v11:=fun mp lim X Q=>Right_ok mp lim (cap:=loose 4) (Q:=Q) (t7.app X) (by rw [List.length_set,stdsN_len];omega)
 have v27:=fun mp lim X Q=>RightSent_ok mp lim (cap:=loose 6) (Q:=Q) (t8.app X) (by rw [List.length_set,sntsN_len];omega)
 have v28:=fun mp lim X Q=>RightClaims_ok mp lim (cap:=loose 6) (Q:=Q) (t9.app X) (by rw [List.length_set,clmsN_len];omega)
 rw [List.length_set,stdsN_len,r7] at v11
 rw [List.length_set,sntsN_len,r8] at v27
 rw [List.length_set,clmsN_len,r9] at v28
 simp only [n24,r24,w1,w2,ld7,i7a,i7b,i8,i9,m8,m9,m7,v11,v27,v28,h7,h8,h9,q42,wi,zEl,SB,seval,zCa,aOp,zB,aUn,reduceCtorEq,zFr,place,zTu,zRe]
 exact zRp (hN (i+1) _ _ ⟨by omega,(((hC3.mut M8 (.inr (by omega))).mut M9 (.inr (by omega))).mut M7 (.inr (by omega))).app.app,(by exact q40),(by exact q41),by rfl⟩ (by omega))
end
theorem wrap_u8 (n:Int):0≤IntKind.u8.wrap n∧IntKind.u8.wrap n<256:=by
 simp only [IntKind.wrap,IntKind.bits,IntKind.signed]
 constructor
 ·simp;exact Int.emod_nonneg _ (by decide)
 ·simp;exact Int.emod_lt_of_pos _ (by decide)
def late0:Clm:=⟨1,9,30000,1,100,7⟩
def bdC:zAc→zAc
 | .block _ b=>b
 | c=>c
def B23:zAc:=bdC (hdC (tlC l23_1))
def R23:zAc:=tlC (tlC (tlC B23))
theorem l23_cut:l23_1=.seq (hdC l23_1) (.seq (.block 1 (.seq (hdC B23) (.seq (hdC (tlC B23)) (.seq (hdC (tlC (tlC B23))) R23)))) (tlC (tlC l23_1))):=rfl
theorem f_rest [OB] {lim b0:Nat} {n:Int} {a:Std} {b:Trm} {s:Snt} {c:Clm} {G:zH} {fr:Nat→Value} {K:List zAi} {Z:Value→zH→Prop} (hl:lim≤b0) (h8:zG G b0=.cells false (encC c)) (h5:zG G (b0+1)=.cells false (encS a)) (h6:zG G (b0+2)=.cells false (encT b)) (h7:zG G (b0+3)=.cells false (encN s))
  (ua:0≤a.cls) (ub:0≤b.cls) (us:0≤s.cls) (uc:0≤c.kind∧c.kind<256)
  (f0:fr 0=.int .i64 n) (f5:fr 5=.slice (some ⟨b0+1,0,none⟩) 1 1) (f6:fr 6=.slice (some ⟨b0+2,0,none⟩) 1 1) (f7:fr 7=.slice (some ⟨b0+3,0,none⟩) 1 1) (f8:fr 8=.slice (some ⟨b0,0,none⟩) 1 1)
  (hR:∀fr' G',(∀j,j<b0→zG G' j=zG G j)→b0≤G'.length→(∀j,j≤4→j≠2→fr' j=fr j)→Ret E a23 lim K fr' (G'++[]) Z) :
  Ret E a23 lim (.code R23::K) fr (G++[]) Z:=by
 have y5:=fun X=>sl1 (H:=G++X) zEl ((Ext.refl.app (X:=X)).cells h5)
 have y6:=fun X=>sl1 (H:=G++X) encT_len ((Ext.refl.app (X:=X)).cells h6)
 have y7:=fun X=>sl1 (H:=G++X) encN_len ((Ext.refl.app (X:=X)).cells h7)
 have y8:=fun X=>sl1 (H:=G++X) encC_len ((Ext.refl.app (X:=X)).cells h8)
 have t1:=fun X (mp:Bool) (lim:Nat) (Q:Value→zH→Prop)=>tells_ok (mp:=mp) (lim:=lim) (k1:=1) (k2:=1) (k3:=1) (k4:=1) (Q:=Q) (y5 X) (y6 X) (y7 X) (y8 X) (by simp) (by simp) (by simp) (by simp) (by simpa using ua) (by simpa using ub) (by simpa using us) (by simpa using uc) (fun _ h=>by cases h)
 have p1:=fun X (mp:Bool) (lim:Nat) (u v w x:Int) (Q:Value→zH→Prop)=>promises_ok (mp:=mp) (lim:=lim) (cap:=1) (c:=u) (f:=v) (t:=w) (a:=x) (Q:=Q) (y5 X) (by simp) (by simpa using ua)
 simp only [List.length_cons,List.length_nil,Nat.zero_add] at t1 p1
 unfold R23
 simp only [l23_1,B23,hdC,tlC,bdC]
 have a8:=zHa h8
 have a7:=zHa h7
 have x8:=fun X=>(Ext.refl.app (X:=X)).cells h8
 simp only [encC] at x8
 have z8:=fun (x:Blk)=>hget_set_eq (X:=G++[]) (j:=b0) (b:=x) (by simpa using a8)
 have z7:=fun (x:Blk)=>(zHs (X:=G++[]) (i:=b0+3) (j:=b0) (b:=x) (by omega)).trans ((Ext.refl.app (X:=[])).cells h7)
 simp only [encN] at z7
 simp only [n23,r23,f0,f5,f6,f7,f8,t1,p1,x8,hl,z8,z7,List.set_set,SB,seval,zCa,aOp,zB,aUn,reduceCtorEq,zFr,place,zTu,zRe]
 obtain ⟨G2,hG2⟩:∃G2,G2=((G++[]).set b0 (.cells false (encC { c with kind:=2,val:=n }))).set (b0+3) (.cells false (encN { s with del:=-1 })):=⟨_,rfl⟩
 have o1:∀j,j≠b0→j≠b0+3→zG G2 j=zG G j:=fun j h1 h2=>by rw [hG2,zHs h2,zHs h1,List.append_nil]
 have o8:zG G2 b0=.cells false (encC { c with kind:=2,val:=n }):=by rw [hG2,zHs (by omega)];exact z8 _
 have o7:zG G2 (b0+3)=.cells false (encN { s with del:=-1 }):=by rw [hG2];exact hget_set_eq (by simpa using a7)
 have o5:=(o1 (b0+1) (by omega) (by omega)).trans h5
 have o6:=(o1 (b0+2) (by omega) (by omega)).trans h6
 have ol:G2.length=G.length:=by rw [hG2];simp
 simp only [encC,encN] at hG2
 rw [←hG2,←List.append_nil G2]
 refine Eq.mpr (tells_ok (l:=[a]) (t:=[b]) (s:=[{ s with del:=-1 }]) (c:=[{ c with kind:=2,val:=n }]) ((sl1 zEl o5).app _) ((sl1 encT_len o6).app _) ((sl1 encN_len o7).app _) ((sl1 encC_len o8).app _) (by simp) (by simp) (by simp) (by simp) (by simpa using ua) (by simpa using ub) (by simpa using us) (by simp) (fun _ h=>by cases h)) ?_
 simp only [n23,r23,SB,seval,zCa,aOp,zB,aUn,reduceCtorEq,zFr,place,zTu,zRe]
 exact hR _ G2 (fun j hj=>o1 j (by omega) (by omega)) (by omega) fun j hj h2=>by
  simp only [upd]
  repeat rw [if_neg (by omega)]
theorem f_loop [OB] {lim B3:Nat} {n:Int} {G0:zH} {fr:Nat→Value} {K:List zAi} {Z:Value→zH→Prop} (hn:-9223372036854775808≤n∧n≤9223372036854775807) (hl:lim≤G0.length) (k3:zG G0 B3=.cells false (encC late0))
  (f0:fr 0=.int .i64 n) (f3:fr 3=.pointer (some ⟨B3,0,none⟩)) (f4:fr 4=.int .i64 0)
  (hR:∀fr' G',Ext G0 G'→(∀j,j≤3→j≠2→fr' j=fr j)→Ret E a23 lim K fr' (G'++[]) Z) :
  Ret E a23 lim (.code (.loop l23_1)::.inBlock 0::K) fr (G0++[]) Z:=by
 refine zRr (fun i:Nat=>16-i) (fun i fr' G'=>i≤16∧Ext G0 G'∧fr' 4=.int .i64 (i:Int)∧(∀j,j≤3→j≠2→fr' j=fr j)) 0
  ⟨Nat.zero_le _,Ext.refl.app,by rw [f4];rfl,fun _ _ _=>rfl⟩ ?_
 intro i fr' G ⟨hi,hE,g4,hfr⟩ hN
 rw [zRc l23_cut]
 simp only [l23_1,B23,hdC,tlC,bdC]
 refine zRp ?_
 have hle:=hE.len
 have g0:=(hfr 0 (by decide) (by decide)).trans f0
 have g3:=(hfr 3 (by decide) (by decide)).trans f3
 by_cases hlt:i<16
 case neg=>
  obtain rfl:i=16:=by omega
  have h3:¬((16:Nat):Int)<16:=by decide
  simp only [n23,r23,g4,eq_false h3,SB,seval,zCa,aOp,zB,aUn,reduceCtorEq,zFr,place,zTu,zRe]
  exact hR _ _ hE fun j hj h2=>by
   rw [←hfr j (by omega) h2]
   simp only [upd]
   repeat rw [if_neg (by omega)]
 have h3:(i:Int)<16:=by omega
 have hlG:lim≤G.length:=by omega
 have x3:=fun X=>(hE.trans (Ext.refl.app (X:=X))).cells k3
 simp only [encC,late0] at x3
 have wi:IntKind.i64.wrap ((i:Int)+1)=((i+1:Nat):Int):=zWn (by omega)
 have key:∀(fr2:Nat→Value) (G2:zH),fr2 4=.int .i64 (i:Int)→(∀j,j≤3→j≠2→fr2 j=fr' j)→(∀j,j<G.length→zG G2 j=zG G j)→G.length≤G2.length→Ret E a23 lim (.inBlock 1::.code (tlC (tlC l23_1))::.inLoop l23_1::.inBlock 0::K) fr2 (G2++[]) Z:=by
  intro fr2 G2 q4 hf2 hK2 hL2
  simp only [l23_1,tlC]
  simp only [n23,r23,q4,wi,SB,seval,zCa,aOp,zB,aUn,reduceCtorEq,zFr,place,zTu,zRe]
  have hE2:Ext G0 G2:=(Chg.trans (A:=[]) hE.chg ⟨hL2,fun j hj _=>hK2 j hj⟩).ext
  exact zRp (hN (i+1) _ _ ⟨by omega,hE2.app.app,by rfl,fun j hj h2=>by
   have e:=hf2 j hj h2
   simp only [upd]
   repeat rw [if_neg (by omega)]
   rw [e];exact hfr j hj h2⟩ (by omega))
 have hix:=fun (b c:Nat) (k:IntKind) (H1:zH)=>idxK_nat (e:=1) (n:=i) (len:=16) (c:=c) (p:=⟨b,0,none⟩) (k:=k) (H:=H1) hlt
 simp only [n23,r23,g0,g3,g4,eq_true h3,x3,zSa,hlG,std_ok,trm_ok,snt_ok,hix,SB,seval,zCa,aOp,zB,aUn,reduceCtorEq,zFr,place,zTu,zRe]
 obtain rfl | rfl | rfl | rfl | rfl | rfl | rfl | rfl | rfl | rfl | rfl | rfl | rfl | rfl | rfl | rfl:i=0∨i=1∨i=2∨i=3∨i=4∨i=5∨i=6∨i=7∨i=8∨i=9∨i=10∨i=11∨i=12∨i=13∨i=14∨i=15:=by omega
 all_goals
  simp only [n23,r23,encS,encT,encN,encC,hlG,g0,SB,seval,zCa,aOp,zB,aUn,reduceCtorEq,zFr,place,zTu,zRe]
  refine zRp (f_rest (n:=n) (b0:=G.length) (a:=⟨_,_,_,_⟩) (b:=⟨_,_,_,_,_,_,_⟩) (s:=⟨_,_,_,_,_,_⟩) (c:=⟨_,_,_,_,_,_⟩) hlG (zHn.trans rfl) (zHw.trans rfl) (zHw.trans rfl) (zHw.trans rfl) (by simp) (by simp) (by simp) (by simp) (by exact g0) (by rfl) (by rfl) (by rfl) (by rfl) fun fr2 G2 hK2 hL2 hf2=>?_)
  refine key fr2 G2 ((hf2 4 (by decide) (by decide)).trans (by exact g4)) (fun j hj h2=>?_) (fun j hj=>(hK2 j hj).trans (zHo hj)) hL2
  rw [hf2 j (by omega) h2]
  simp only [upd]
  repeat rw [if_neg (by omega)]
theorem fields_ok [OB] {mp:Bool} {lim:Nat} {n:Int} {H:zH} {Q:Value→zH→Prop} (hn:-9223372036854775808≤n∧n≤9223372036854775807):CallR E mp lim 23 [.int .i64 n] H Q=Q (.bool true) H:=by
 refine pc (by decide) e23 rfl rfl ?_
 rw [b23,c23]
 simp only [n23,r23,zSa,SB,seval,zCa,aOp,zB,aUn,reduceCtorEq,zFr,place,zTu,zRe]
 refine zRp (f_loop (G0:=H++[Blk.cells false (encC late0)]) (B3:=H.length) hn (by simp) (zHn.trans rfl) (by rfl) (by rfl) (by rfl) fun fr1 G1 hE1 hf1=>?_)
 have q0:=(hf1 0 (by decide) (by decide)).trans (by rfl)
 have q3:=(hf1 3 (by decide) (by decide)).trans (by rfl)
 have hl1:=hE1.len
 simp only [List.length_append,List.length_cons,List.length_nil] at hl1
 have hlG:H.length≤G1.length:=by omega
 have x3:=fun X=>(hE1.trans (Ext.refl.app (X:=X))).cells (zHn.trans rfl:zG (H++[Blk.cells false (encC late0)]) H.length=.cells false (encC late0))
 simp only [encC,late0] at x3
 have hsl:∀b:Nat,sliceV 6 (.slice (some ⟨b,0,none⟩) 1 1) none (some (.int .i64 0)) none=some (.slice (some ⟨b,0,none⟩) 0 1):=fun b=>rfl
 obtain ⟨u,hu⟩:∃u,IntKind.u8.wrap n=u:=⟨_,rfl⟩
 have hub:0≤u∧u<256:=hu▸wrap_u8 n
 simp only [n23,r23,q0,q3,x3,zSa,hlG,std_ok,trm_ok,snt_ok,encS,encT,encN,encC,hsl,hu,SB,seval,zCa,aOp,zB,aUn,reduceCtorEq,zFr,place,zTu,zRe]
 refine Eq.mpr (tells_ok (l:=[⟨u,2,3,1000⟩]) (t:=[⟨1,60,2500,10000,10000,5000,30⟩]) (s:=[⟨9,1,2,3,500,1⟩]) (c:=[]) (sl1 zEl (zHw.trans rfl)) (sl1 encT_len (zHw.trans rfl)) (sl1 encN_len (zHw.trans rfl)) ⟨rfl,fun h=>absurd rfl h⟩ (by simp) (by simp) (by simp) (by simp) (by simpa using hub.1) (by simp) (by simp) (by simp) (fun h=>absurd rfl h)) ?_
 simp only [n23,r23,q0,q3,x3,zSa,hlG,std_ok,trm_ok,snt_ok,encS,encT,encN,encC,hsl,hu,SB,seval,zCa,aOp,zB,aUn,reduceCtorEq,zFr,place,zTu,zRe]
 refine Eq.mpr (tells_ok (l:=[⟨1,2,3,1000⟩]) (t:=[⟨u,60,2500,10000,10000,5000,30⟩]) (s:=[⟨9,u,2,3,500,6000⟩]) (c:=[⟨1,9,30000,1,100,7⟩]) (sl1 zEl (zHw.trans rfl)) (sl1 encT_len (zHw.trans rfl)) (sl1 encN_len (zHw.trans rfl)) (sl1 encC_len (zHw.trans rfl)) (by simp) (by simp) (by simp) (by simp) (by simp) (by simpa using hub.1) (by simpa using hub.1) (by simp) (fun _ h=>by cases h)) ?_
 simp only [n23,r23,q0,q3,x3,zSa,hlG,std_ok,trm_ok,snt_ok,encS,encT,encN,encC,hsl,hu,SB,seval,zCa,aOp,zB,aUn,reduceCtorEq,zFr,place,zTu,zRe]
 refine Eq.mpr (tells_ok (l:=[⟨1,2,3,1000⟩]) (t:=[⟨1,60,2500,10000,10000,5000,30⟩]) (s:=[⟨9,1,2,3,500,1⟩]) (c:=[⟨1,n,30000,u,100,7⟩]) (sl1 zEl (zHw.trans rfl)) (sl1 encT_len (zHw.trans rfl)) (sl1 encN_len (zHw.trans rfl)) (sl1 encC_len (zHn.trans rfl)) (by simp) (by simp) (by simp) (by simp) (by simp) (by simp) (by simp) (by simpa using hub) (fun _ h=>by cases h)) ?_
 simp only [n23,r23,q0,q3,x3,zSa,hlG,std_ok,trm_ok,snt_ok,encS,encT,encN,encC,hsl,hu,SB,seval,zCa,aOp,zB,aUn,reduceCtorEq,zFr,place,zTu,zRe]
section
variable {lim:Nat} {G0:zH} {fr:Nat→Value} {K:List zAi} {Z:Value→zH→Prop}
def xS:Std:=⟨1,2,3,0⟩
def yS:List Std:=[⟨1,2,3,0⟩,⟨1,2,4,0⟩,⟨1,2,2,0⟩,⟨1,3,1,0⟩,⟨1,1,9,0⟩,⟨2,1,1,0⟩]
theorem two_loop [OB] {B p c:Nat} (k11:zG G0 B=.cells false (encS xS)) (hs:Sl G0 encS 4 (some ⟨p,0,none⟩) yS) (hl:lim≤G0.length)
  (f11:fr 11=.pointer (some ⟨B,0,none⟩)) (f136:fr 136=.slice (some ⟨p,0,none⟩) 6 c) (f137:fr 137=.int .i64 6) (f138:fr 138=.int .i64 0)
  (hR:∀fr' G',Ret E a24 lim K fr' (G'++[]) Z) :
  Ret E a24 lim (.code (.loop l24_1)::.inBlock 8::K) fr (G0++[]) Z:=by
 refine zRr (fun i:Nat=>6-i) (fun i fr' G'=>i≤6∧Ext G0 G'∧fr' 11=.pointer (some ⟨B,0,none⟩)∧fr' 136=.slice (some ⟨p,0,none⟩) 6 c∧fr' 137=.int .i64 6∧fr' 138=.int .i64 (i:Int)) 0
  ⟨Nat.zero_le _,Ext.refl.app,f11,f136,f137,by rw [f138];rfl⟩ ?_
 intro i fr' G ⟨hi,hE,g11,g136,g137,g138⟩ hN
 rw [zRc l24_1.eq_1]
 refine zRp ?_
 have hle:=hE.len
 by_cases hlt:i<6
 case neg=>
  obtain rfl:i=6:=by omega
  have h6:¬((6:Nat):Int)<6:=by decide
  simp only [n24,r24,g136,g137,g138,eq_false h6,SB,seval,zCa,aOp,zB,aUn,reduceCtorEq,zFr,place,zTu,zRe]
  exact hR _ G
 have h6:(i:Int)<6:=by omega
 have hlG:lim≤G.length:=by omega
 have hyl:yS.length=6:=rfl
 have ld:=fun X=>((hE.sl hs).app X).loadCells zEl (i:=i) (by omega)
 have ix:=fun c (kk:IntKind) (H1:zH)=>(hE.sl hs).idx (c:=c) (k:=kk) (H1:=H1) (i:=i) (by omega)
 rw [hyl] at ix
 have wi:IntKind.i64.wrap ((i:Int)+1)=((i+1:Nat):Int):=zWn (by omega)
 obtain ⟨y,hy⟩:∃y,gt yS i=y:=⟨_,rfl⟩
 have hu:0≤y.cls:=by
  have:y∈yS:=hy▸gt_mem (by omega)
  simp only [yS,List.mem_cons,List.not_mem_nil,or_false] at this
  rcases this with rfl | rfl | rfl | rfl | rfl | rfl<;>decide
 rw [hy] at ld
 simp only [encS] at ld
 have x11:=fun X=>(hE.trans (Ext.refl.app (X:=X))).cells k11
 simp only [encS,xS] at x11
 simp only [n24,r24,g11,g136,g137,g138,eq_true h6,ld,ix,x11,zSa,hlG,SB,seval,zCa,aOp,zB,aUn,reduceCtorEq,zFr,place,zTu,zRe]
 refine Eq.mpr (Right_ok false lim (l:=[xS,y]) (Sl.row (ro:=false) zEl (zHw.trans rfl)) (by simp)) ?_
 simp only [n24,r24,SB,seval,zCa,aOp,zB,aUn,reduceCtorEq,zFr,place,zTu,zRe]
 refine Eq.mpr (refRight_ok false lim (l:=[xS,y]) (Sl.row (ro:=false) zEl (zHw.trans rfl)) (by simp) (by simp [hu,xS])) ?_
 simp only [n24,r24,aEq,bne_self_eq_false,beq_self_eq_true,g138,wi,SB,seval,zCa,aOp,zB,aUn,reduceCtorEq,zFr,place,zTu,zRe]
 exact zRp (hN (i+1) _ _ ⟨by omega,hE.app.app,(by exact g11),(by exact g136),(by exact g137),by rfl⟩ (by omega))
end
theorem lists_ok [OB] {mp:Bool} {lim:Nat} {H:zH} {Q:Value→zH→Prop}:CallR E mp lim 24 [] H Q=Q (.bool true) H:=by
 refine pc (by decide) e24 rfl rfl ?_
 rw [b24,c24]
 simp only [n24,r24,zSa,SB,seval,zCa,aOp,zB,aUn,reduceCtorEq,zFr,place,zTu,zRe]
 refine zRp (trms_loop (l:=[199,200,201,254,255]) (m:=5) (G0:=H++[Blk.cells false ([199,200,201,254,255].flatMap encI)]) (Sl.row (ro:=false) zIl (zHn.trans rfl)) rfl (by decide) (by decide) (by simp) (by rfl) (by rfl) (by rfl) fun fr1 G1 hC1=>?_)
 have hl1:=hC1.len
 simp only [List.length_append,List.length_cons,List.length_nil] at hl1
 simp only [n24,r24,zSa,SB,seval,zCa,aOp,zB,aUn,reduceCtorEq,zFr,place,zTu,zRe]
 refine zRp (lists_loop (l:=[499,500,501,1999,2000,2001]) (m:=6) (G0:=G1++[Blk.cells false ([499,500,501,1999,2000,2001].flatMap encI)]) (Sl.row (ro:=false) zIl (zHn.trans rfl)) rfl (by decide) (by decide) (by simp;omega) (by rfl) (by rfl) (by rfl) fun fr2 G2 hC2=>?_)
 have hl2:=hC2.len
 simp only [List.length_append,List.length_cons,List.length_nil] at hl2
 have hlG:H.length≤G2.length:=by omega
 simp only [n24,r24,zSa,hlG,SB,seval,zCa,aOp,zB,aUn,reduceCtorEq,zFr,place,zTu,zRe]
 refine zRp (two_loop (G0:=G2++[Blk.cells false (encS xS),Blk.cells false (yS.flatMap encS)]) (B:=G2.length) (p:=G2.length+1) (zHn.trans rfl) (Sl.row (ro:=false) zEl (zHw.trans rfl)) (by simp;omega) (by rfl) (by rfl) (by rfl) (by rfl) fun fr3 G3=>?_)
 simp only [n24,r24,SB,seval,zCa,aOp,zB,aUn,reduceCtorEq,zFr,place,zTu,zRe]
theorem n_loop [OB] {G0:zH} {lim:Nat} {fr:Nat→Value} {K:List zAi} {Z:Value→zH→Prop} {l:List Int} {p:Option Addr} {m c:Nat} (hs:Sl G0 encI 1 p l) (hm:l.length=m) (hm9:m<100) (hb:∀x∈l,-9223372036854775808≤x∧x≤9223372036854775807) (hl:lim≤G0.length)
  (f79:fr 79=.slice p m c) (f80:fr 80=.int .i64 (m:Int)) (f81:fr 81=.int .i64 0)
  (hR:∀fr' G',Ret E a7 lim K fr' (G'++[]) Z) :
  Ret E a7 lim (.code (.loop l7_1)::.inBlock 10::K) fr (G0++[]) Z:=by
 refine zRr (fun i:Nat=>m-i) (fun i fr' G'=>i≤m∧Ext G0 G'∧fr' 79=.slice p m c∧fr' 80=.int .i64 (m:Int)∧fr' 81=.int .i64 (i:Int)) 0
  ⟨Nat.zero_le _,Ext.refl.app,f79,f80,by rw [f81];rfl⟩ ?_
 intro i fr' G ⟨hi,hE,g79,g80,g81⟩ hN
 rw [zRc l7_1.eq_1]
 refine zRp ?_
 by_cases hlt:i<m
 case neg=>
  obtain rfl:i=m:=by omega
  simp only [n7,r7,g79,g80,g81,hlt,SB,seval,zCa,aOp,zB,aUn,reduceCtorEq,zFr,place,zTu,zRe]
  exact hR _ G
 have ld:=fun X=>((hE.sl hs).app X).loadCell0 zIl (i:=i) (by omega) (by decide)
 simp only [encI,List.getElem?_cons_zero] at ld
 have ix:=fun c (kk:IntKind) (H1:zH)=>(hE.sl hs).idx (c:=c) (k:=kk) (H1:=H1) (i:=i) (by omega)
 rw [hm] at ix
 have wi:IntKind.i64.wrap ((i:Int)+1)=((i+1:Nat):Int):=zWn (by omega)
 have hf:=fun (mp:Bool) (lim:Nat) (H:zH) (Q:Value→zH→Prop)=>fields_ok (mp:=mp) (lim:=lim) (H:=H) (Q:=Q) (hb _ (gt_mem (l:=l) (i:=i) (by omega)))
 simp only [n7,r7,g79,g80,g81,hlt,ld,ix,hf,wi,SB,seval,zCa,aOp,zB,aUn,reduceCtorEq,zFr,place,zTu,zRe]
 exact zRp (hN (i+1) _ _ ⟨by omega,hE.app.app,(by exact g79),(by exact g80),by rfl⟩ (by omega))
theorem ClaimSmall_ok [OB] {mp:Bool} {lim:Nat} {H:zH} {Q:Value→zH→Prop}:CallR E mp lim 7 [] H Q=Q (.bool true) H:=by
 refine pc (by decide) e7 rfl rfl ?_
 rw [b7,c7]
 simp only [n7,r7,SB,seval,zCa,aOp,zB,aUn,reduceCtorEq,zFr,place,zTu,zRe]
 refine zRp (i_loop (by simp) (by rfl) (by rfl) fun fr1 G1 hE1=>?_)
 have hl1:=hE1.len
 rw [List.length_append] at hl1
 simp only [n7,r7,zSa,SB,seval,zCa,aOp,zB,aUn,reduceCtorEq,zFr,place,zTu,zRe]
 refine zRp (n_loop (l:=[-2,-1,0,1,2,3649,3650,3651,9999,10000,10001,99999,100000,100001,999999,1000000,1000001,1051898398,1051898399,1051898400,249999999999999,250000000000000,250000000000001,9223372036854775807]) (m:=24) (G0:=G1++[Blk.cells false ([-2,-1,0,1,2,3649,3650,3651,9999,10000,10001,99999,100000,100001,999999,1000000,1000001,1051898398,1051898399,1051898400,249999999999999,250000000000000,250000000000001,9223372036854775807].flatMap encI)]) (Sl.row (ro:=false) zIl (zHn.trans rfl)) rfl (by decide) (by decide) (by simp;omega) (by rfl) (by rfl) (by rfl) fun fr2 G2=>?_)
 simp only [n7,r7,lists_ok,awake_ok,SB,seval,zCa,aOp,zB,aUn,reduceCtorEq,zFr,place,zTu,zRe]
end Go.Proofs.Ytlmoijifgbkapaa.Fn

