/-
  Joined texts, 8 of 9. A part of the claim that the last text states.
-/
import Derived.Test.YtohnaffmcjbpoaaGreatPO7
set_option linter.unusedVariables false
set_option linter.unusedSimpArgs false
set_option linter.defProp false
set_option linter.unusedSectionVars false
set_option maxRecDepth 100000
set_option maxHeartbeats 4000000
namespace Go.Proofs.YtohnaffmcjbpoaaGreat.Fn
open Go.AM Go.AM.Sym Go.Net Go.Flow
theorem cutL_len {T:Int→Option Int} {C:List (Leg×Int)}:(cutL T C).length≤C.length:=by
 unfold cutL
 rw [List.length_map]
 exact List.length_filter_le _ _
theorem bind_ok [OB] {lim:Nat} {pp pl ps:Option Addr} {P:List Int} {L:List Leg} {s:List Flow.Src} {cp cl cs:Nat} {to dl:Int} {H:zH} {Q:Value→zH→Prop} (hn:NetIn H pp pl P L) (hs:Sl H encS 3 ps s) (hLl:L.length≤8) (hPl:P.length<2 ^ 40) (hlim:lim≤H.length) (ha:zAn P L s to dl=0)
  (hQ:∀G pt ct q c SD,Own (H.length+2) G encI 1 pt ct (zbt (cutT s (zCc L to dl) to dl) P)→Own (H.length+2) G encD 4 q c SD→SD.Perm (cutL (cutT s (zCc L to dl) to dl) (zCc L to dl))→SD.Pairwise (fun x y=>¬ldLt y x)→Chg [] H G→Q (.tuple #[.agg #[.slice pt P.length ct,.slice q SD.length c],.int .i64 0]) G) :
  za0 E false lim 18 [.agg (netV pp P.length cp pl L.length cl).toArray,.slice ps s.length cs,.int .i64 to,.int .i64 dl] H Q:=by
 have hA:=allowed_0 ha
 have hsl:s.length<2 ^ 63:=by have:=hA.ns;omega
 have hCm:∀c∈zCc L to dl,Fine c.1∧0≤c.2∧c.2+c.1.mins≤za1:=fun c hc=>by
  obtain ⟨h1,h2,d,_,h3,h4,h5⟩:=zaf hc
  have:=hA.d1
  exact ⟨hA.net.fine _ h1,by omega,by omega⟩
 have hCn:=countC_len (to:=to) (dl:=dl) hA.net.fine
 refine zbq (by decide) e18 rfl ?_
 rw [b18,c18]
 refine zRp ?_
 simp only [n18,r18,zNl,zN0,zN1,hlim,zd1 (hn.app _) (hs.app _) hsl,ha,SB,seval,zCa,aOp,zB,aUn,reduceCtorEq,zFr,place,zTu,zRe]
 refine build_ok (by simp;omega) (hs.app _) (hn.app _).sl hA.net.fine hLl hA.d0 hA.d1 (by have:=hA.ns;omega) (fun x hx=>(hA.src x hx).2) fun G A SL Lv l out Lb cp' ca cv cw pp' pa pw vm vo v5 hB=>?_
 have kA:=fun Z=>(Ext.refl.app (X:=Z)).cells hB.hdr
 have hGl:=hB.len
 simp only [List.length_append,List.length_cons,List.length_nil] at hGl
 have hnew:=hB.new
 simp only [List.length_append,List.length_cons,List.length_nil] at hnew
 have b4:zG G H.length=.cells false (netV pp P.length cp pl L.length cl):=by
  rw [hB.keep _ (by simp)];exact zHn
 have b8:zG G (H.length+1)=.cells false [.slice none 0 0,.slice none 0 0]:=by
  rw [hB.keep _ (by simp)];exact zHw
 have k4:=fun Z=>(Ext.refl.app (X:=Z)).cells b4
 refine zRp ?_
 simp only [n18,r18,zNl,zN0,zN1,kA,k4,SB,seval,zCa,aOp,zB,aUn,reduceCtorEq,zFr,place,zTu,zRe]
 obtain ⟨T,hT⟩:∃T,T=cutT s (zCc L to dl) to dl:=⟨_,rfl⟩
 rw [←hT] at hQ
 have eT:zb6 (lvF Lv) SL 2=T:=by rw [hT];exact (zbe hB.best).2
 have hCG:Chg [] H G:=⟨by omega,fun j hj _=>(hB.keep j (by simp;omega)).trans (zHo hj)⟩
 have hns:=hB.ns
 refine from_ok (B4:=H.length) (B8:=H.length+1) (A:=A) (R:=G.length) ⟨(by rfl),(by rfl),(by rfl),(by rfl)⟩ (kA _) (hB.sp.app _) ((Ext.refl.app).cells hB.sl) hB.ll (by omega) zHn (by omega) (by rfl) (by rfl) (by rfl) fun fr1 G1 es hf1 hes hR1 hC1=>?_
 rw [eT] at hes
 obtain ⟨f4,f8,f11,f12⟩:=hf1
 have hl1:=hC1.len
 simp only [List.length_append,List.length_cons,List.length_nil] at hl1
 have hCH1:Chg [] H G1:=(hCG.app).trans' hC1 fun j hj hl=>by rw [List.mem_singleton] at hj;omega
 have c4:=hC1.cells (k4 _) (by rw [List.mem_singleton];omega)
 have c8:=hC1.cells ((Ext.refl.app (X:=[Blk.map []])).cells b8) (by rw [List.mem_singleton];omega)
 have hAl:=zHa hB.hdr
 have cA:=hC1.cells (kA _) (by rw [List.mem_singleton];omega)
 have c4X:=fun Z=>(Ext.refl.app (X:=Z)).cells c4
 have cAX:=fun Z=>(Ext.refl.app (X:=Z)).cells cA
 have hwl:∀a,pw=some a→zCc L to dl≠[]→a.block<G.length:=fun a ha hne=>by
  have:=hB.sw
  rw [ha] at this
  refine this.lt fun e=>hne (List.length_eq_zero_iff.1 ?_)
  rw [←waysL_len (n:=2*(zCp SL 2++srcP SL to dl s).length),e];rfl
 have sw1:Sl G1 encW 11 pw (zcl (2*(zCp SL 2++srcP SL to dl s).length) (zCc L to dl)):=hC1.sl (hB.sw.app _) fun a ha hne=>by
  rw [List.mem_singleton]
  have:=hwl a ha fun e=>hne (by rw [e];rfl)
  omega
 refine zRp ?_
 simp only [n18,r18,zNl,zN0,zN1,f4,f8,f11,f12,c4X,show lim≤G1.length by omega,SB,seval,zCa,aOp,zB,aUn,reduceCtorEq,zFr,place,zTu,zRe]
 have sP1:Sl G1 encI 1 pp P:=(hCH1.sl hn.sp fun a _ _ h=>by cases h)
 refine times_ok (B4:=H.length) (B8:=H.length+1) (A:=A) (R:=G.length) (Bc:=G1.length) (T:=T) (es:=es) (cp2:=cp) ⟨(by exact f4),by exact f8,by exact f11,by exact f12⟩ (sP1.app _) hPl (by rw [zHo (zda hR1)];exact hR1) hes (by rfl) zHn (by omega) (by rfl) (by rfl) (by rfl) fun fr2 G2 pt ct hf2 f17 hO2 hB2 hC2=>?_
 clear f4 f8 f11 f12
 obtain ⟨f4,f8,f11,f12⟩:=hf2
 have hl2:=hC2.len
 simp only [List.length_append,List.length_cons,List.length_nil] at hl2 hO2
 have n1:∀b,b<G1.length→b∉[G1.length]:=fun b hb=>by rw [List.mem_singleton];omega
 have cA2:=fun Z=>(Ext.refl.app (X:=Z)).cells (hC2.cells (cAX _) (n1 A (by omega)))
 refine zRp ?_
 simp only [n18,r18,zNl,zN0,zN1,f4,f8,f11,f12,f17,cA2,SB,seval,zCa,aOp,zB,aUn,reduceCtorEq,zFr,place,zTu,zRe]
 have hR2:zG G2 G.length=.map (encM kI vI es):=by
  rw [hC2.other _ (by simp;omega) (n1 _ (by omega)),zHo (by omega)];exact hR1
 have sw2:Sl G2 encW 11 pw (zcl (2*(zCp SL 2++srcP SL to dl s).length) (zCc L to dl)):=hC2.sl (sw1.app _) fun a ha hne=>by
  have:=hwl a ha fun e=>hne (by rw [e];rfl)
  exact n1 _ (by omega)
 refine loads_ok (B4:=H.length) (B8:=H.length+1) (A:=A) (R:=G.length) (Bc:=G1.length) (T:=T) (es:=es) (C:=zCc L to dl) (cw:=cw) ⟨(by exact f4),by exact f8,by exact f11,by exact f12⟩ (sw2.app _) hCm (by omega) (by rw [List.append_nil];exact hR2) hes (by exact f17) (by rw [List.append_nil];exact hB2) (fun a ha hne=>by have:=hwl a ha hne;omega) (by omega) (by rfl) (by rfl) (by rfl) fun fr3 G3 q c k hf3 f17 hk hO3 hB3 hC3=>?_
 clear f4 f8 f11 f12
 obtain ⟨f4,f8,f11,f12⟩:=hf3
 have hl3:=hC3.len
 simp only [List.length_append,List.length_nil,Nat.add_zero] at hl3 hO3
 have hO2':Own (G1.length+1) G3 encI 1 pt ct (zbt T P):=(hO2.app []).chg hC3 fun a ha=>by
  have:=(hO2.block ha).1
  rw [List.mem_singleton];omega
 have kB3:=fun Z=>(Ext.refl.app (X:=Z)).cells hB3
 refine zRp ?_
 simp only [n18,r18,zNl,zN0,zN1,f4,f8,f11,f12,f17,kB3,SB,seval,zCa,aOp,zB,aUn,reduceCtorEq,zFr,place,zTu,zRe]
 have hkl:(cutL T (zCc L to dl)).length≤(zCc L to dl).length:=cutL_len
 rw [hk]
 refine sortL_ok (hO3.app _) (by omega) (by omega) fun G4 SD hO4 hperm hpw hk4 hl4=>?_
 simp only [List.length_append,List.length_nil,Nat.add_zero] at hl4 hk4
 have nq:∀b,b<G2.length→b∉opB q:=fun b hb hm=>by
  obtain ⟨a,ha,rfl⟩:=zOm.1 hm
  have:=(hO3.block ha).1;omega
 have k4':∀b,b<G3.length→b∉opB q→zG G4 b=zG G3 b:=fun b h1 h2=>by rw [hk4 b h1 h2,List.append_nil]
 have hB4:=(k4' G1.length (by omega) (nq _ (by omega))).trans hB3
 have hB4X:=fun Z=>(Ext.refl.app (X:=Z)).cells hB4
 have c83:zG G4 (H.length+1)=.cells false [.slice none 0 0,.slice none 0 0]:=by
  have:=hC2.cells ((Ext.refl.app (X:=[Blk.cells false [.slice none 0 0,.slice none 0 0]])).cells c8) (n1 (H.length+1) (by omega))
  have:=hC3.cells ((Ext.refl.app (X:=[])).cells this) (n1 (H.length+1) (by omega))
  exact (k4' _ (by omega) (nq _ (by omega))).trans this
 obtain ⟨G5,e5,k5,m5⟩:=za4 (zHa c83) (.cells false [.slice pt P.length ct,.slice q SD.length c])
 have k5X:=fun Z=>(Ext.refl.app (X:=Z)).cells k5
 have c83X:=fun Z=>(Ext.refl.app (X:=Z)).cells c83
 refine zRp ?_
 rw [hk,←hperm.length_eq] at hB4X
 simp only [n18,r18,zNl,zN0,zN1,f4,f8,f11,f12,f17,hB4X,c83X,e5,k5X,show lim≤H.length+1 by omega,zSa,SB,seval,zCa,aOp,zB,aUn,reduceCtorEq,zFr,place,zTu,zRe]
 have hO5:Own (G1.length+1) G5 encI 1 pt ct (zbt T P):=(zai hO2' fun a ha=>k4' _ (hO2'.block ha).2 fun hm=>by
  obtain ⟨a',ha',e⟩:=zOm.1 hm
  have h1:=(hO3.block ha').1
  have h2:=(hO2.block ha).2
  omega).mut m5 fun a ha e=>by have:=(hO2.block ha).1;omega
 refine hQ _ pt ct q c SD ((hO5.le (by omega)).app _) (((hO4.mut m5 fun a ha e=>by have:=(hO3.block ha).1;omega).le (by omega)).app _) hperm hpw ?_
 have hC13:Chg [] H G3:=(((hCH1.app).trans' hC2 fun j hj hl=>by rw [List.mem_singleton] at hj;omega).app).trans' hC3 fun j hj hl=>by rw [List.mem_singleton] at hj;omega
 refine (Chg.mut ?_ m5 (.inr (by omega))).app
 refine ⟨by have:=hC13.len;omega,fun j hj _=>(k4' j (by omega) (nq _ (by omega))).trans (hC13.other j hj (by simp))⟩
theorem place_ok [OB] {mp:Bool} {lim np cp nl cl:Nat} {pp pl:Option Addr} {P:List Int} {a:Int} {H:zH} {Q:Value→zH→Prop} (hs:Sl H encI 1 pp P) (hn:P.length<2 ^ 62) :
  za0 E mp lim 14 [.agg (netV pp P.length cp pl nl cl).toArray,.int .i64 a] H Q=Q (.int .i64 (placeN P a)) H:=by
 refine pc (by decide) e14 rfl rfl ?_
 rw [b14,c14]
 have hlim:H.length≤H.length:=Nat.le_refl _
 simp only [n14,r14,zNl,zN0,zN1,hlim,SB,seval,zCa,aOp,zB,aUn,reduceCtorEq,zFr,place,zTu,zRe]
 refine zRr (fun j=>P.length-j) (fun j fr G=>j≤P.length∧fr 1=.int .i64 a∧fr 2=.pointer (some ⟨H.length,0,none⟩)∧fr 5=.int .i64 (j:Int)∧Ext H G∧zG G H.length=.cells false (netV pp P.length cp pl nl cl)∧∀i,i<j→gt P i≠a) 0 ⟨Nat.zero_le _,(by rfl),(by rfl),by rfl,Ext.refl.app,zHn,fun i hi=>by omega⟩ ?_
 intro j fr G ⟨hj,f1,f2,f5,hE,hB,hall⟩ hN
 rw [zRc l14_1.eq_1]
 refine zRp ?_
 have kB:=fun Z=>(Ext.refl.app (X:=Z)).cells hB
 by_cases hlt:j<P.length
 case neg=>
  obtain rfl:j=P.length:=by omega
  simp only [n14,r14,f1,f2,f5,kB,zNl,zN0,zN1,hlt,SB,seval,zCa,aOp,zB,aUn,reduceCtorEq,zFr,place,zTu,zRe]
  rw [placeN,if_neg fun hm=>?_]
  obtain ⟨i,hi,he⟩:=List.mem_iff_getElem.1 hm
  exact hall i hi (by rw [zGl hi];exact he)
 have hld:=zdx (hE.sl hs) hlt
 have hidx:=ix_ints (hE.sl hs) hlt rfl
 have hw1:IntKind.i64.wrap ((j:Int)+1)=((j+1:Nat):Int):=zWn (by omega)
 by_cases he:gt P j=a
 ·simp only [n14,r14,f1,f2,f5,kB,zNl,zN0,zN1,hlt,hidx,hld,hw1,eq_true he,SB,seval,zCa,aOp,zB,aUn,reduceCtorEq,zFr,place,zTu,zRe]
  have hm:a∈P:=he▸zag hlt
  rw [placeN,if_pos hm]
  congr 2
  have h1:posN P a≤j:=by
   unfold posN
   apply Decidable.byContradiction;intro hc
   have:=List.not_of_lt_findIdx (xs:=P) (p:=(· == a)) (i:=j) (by unfold List.idxOf at hc;omega)
   rw [zGl hlt] at he
   simp [he] at this
  rcases Nat.lt_or_ge (posN P a) j with h3 | h3
  ·exfalso
   have hl:posN P a<P.length:=List.idxOf_lt_length_of_mem hm
   have:=List.getElem_idxOf hl
   refine hall _ h3 ?_
   rw [zGl hl];exact this
  ·omega
 ·simp only [n14,r14,f1,f2,f5,kB,zNl,zN0,zN1,hlt,hidx,hld,hw1,eq_false he,SB,seval,zCa,aOp,zB,aUn,reduceCtorEq,zFr,place,zTu,zRe]
  exact hN (j+1) _ _ ⟨by omega,by exact f1,by exact f2,(by rfl),hE.app,by rw [zHo (zHa hB)];exact hB,fun i hi=>by
   rcases Nat.lt_or_ge i j with h | h
   ·exact hall i h
   ·obtain rfl:i=j:=by omega
    exact he⟩ (by omega)
end Go.Proofs.YtohnaffmcjbpoaaGreat.Fn

namespace Go.Flow
open Go.AM Go.Net
end Go.Flow
namespace Go.Proofs.YtohnaffmcjbpoaaGreat.Fn
open Go.AM Go.AM.Sym Go.Net Go.Flow
structure WIn (H:zH) (pp pl ps pt:Option Addr) (P V:List Int) (L:List Leg) (s:List Flow.Src):Prop where
 sp:Sl H encI 1 pp P
 np:P.length<2 ^ 62
 sl:Sl H encL 8 pl L
 nl:L.length≤8
 ss:Sl H encS 3 ps s
 ns:s.length≤60
 sv:Sl H encI 1 pt V
 nv:V.length=P.length
 fine:∀l∈L,Fine l∧l.frm∈P∧l.dst∈P
 src:∀x∈s,SOk P x
theorem WIn.ext {H G:zH} {pp pl ps pt:Option Addr} {P V:List Int} {L:List Leg} {s:List Flow.Src} (h:WIn H pp pl ps pt P V L s) (hE:Ext H G):WIn G pp pl ps pt P V L s:=⟨hE.sl h.sp,h.np,hE.sl h.sl,h.nl,hE.sl h.ss,h.ns,hE.sl h.sv,h.nv,h.fine,h.src⟩
section
variable {H:zH} {pp pl ps pt q:Option Addr} {P V:List Int} {L:List Leg} {s:List Flow.Src} {cp cl cs ct nq cq:Nat} {to dl:Int}
end
def greatN (P:List Int) (L:List Leg) (n:Nat):Bool:=decide (260<P.length∨260<L.length∨60<n)||(decide (7<P.length∨8<L.length)&&decide (za6 P L=0))
theorem great_ok [OB] {mp:Bool} {lim:Nat} {pp pl ps:Option Addr} {P:List Int} {L:List Leg} {n cp cl cs:Nat} {H:zH} {Q:Value→zH→Prop} (hn:NetIn H pp pl P L) :
  za0 E mp lim 6 [.agg (netV pp P.length cp pl L.length cl).toArray,.slice ps n cs] H Q=Q (.bool (greatN P L n)) H:=by
 refine pc (by decide) e6 rfl rfl ?_
 rw [b6,c6]
 have hlim:H.length≤H.length:=Nat.le_refl _
 have hv:=fun Z (mp:Bool) (lim:Nat) (Q:Value→zH→Prop)=>valid_ok (mp:=mp) (lim:=lim) (cp:=cp) (cl:=cl) (Q:=Q) (hn.app Z)
 unfold greatN
 by_cases g1:260<(P.length:Int)
 ·simp only [n6,r6,zNl,zN0,zN1,hlim,eq_true g1,SB,seval,zCa,aOp,zB,aUn,reduceCtorEq,zFr,place,zTu,zRe]
  simp [show 260<P.length by omega]
 by_cases g2:260<(L.length:Int)
 ·simp only [n6,r6,zNl,zN0,zN1,hlim,eq_false g1,eq_true g2,SB,seval,zCa,aOp,zB,aUn,reduceCtorEq,zFr,place,zTu,zRe]
  simp [show 260<L.length by omega]
 by_cases g3:60<(n:Int)
 ·simp only [n6,r6,zNl,zN0,zN1,hlim,eq_false g1,eq_false g2,eq_true g3,SB,seval,zCa,aOp,zB,aUn,reduceCtorEq,zFr,place,zTu,zRe]
  simp [show 60<n by omega]
 have e1:decide (260<P.length∨260<L.length∨60<n)=false:=decide_eq_false (by omega)
 rw [e1,Bool.false_or]
 by_cases g4:7<(P.length:Int)
 ·simp only [n6,r6,zNl,zN0,zN1,hlim,eq_false g1,eq_false g2,eq_false g3,eq_true g4,hv,SB,seval,zCa,aOp,zB,aUn,reduceCtorEq,zFr,place,zTu,zRe]
  simp [show 7<P.length by omega]
 by_cases g5:8<(L.length:Int)
 ·simp only [n6,r6,zNl,zN0,zN1,hlim,eq_false g1,eq_false g2,eq_false g3,eq_false g4,eq_true g5,hv,SB,seval,zCa,aOp,zB,aUn,reduceCtorEq,zFr,place,zTu,zRe]
  simp [show 8<L.length by omega]
 ·simp only [n6,r6,zNl,zN0,zN1,hlim,eq_false g1,eq_false g2,eq_false g3,eq_false g4,eq_false g5,hv,SB,seval,zCa,aOp,zB,aUn,reduceCtorEq,zFr,place,zTu,zRe]
  simp;omega
theorem great_no {P:List Int} {L:List Leg} {n:Nat} (h:greatN P L n=false) (hv:za6 P L=0):P.length≤7∧L.length≤8∧n≤60:=by
 unfold greatN at h
 rw [hv] at h
 simp at h
 omega
theorem posN_gt {P:List Int} {L:List Leg} (hv:za6 P L=0) {i:Nat} (hi:i<P.length):posN P (gt P i)=i:=(zdi hv).2.2.1.idx hi
theorem gt_times {T:Int→Option Int} {P:List Int} {i:Nat} (h:i<P.length):gt (zbt T P) i=(T (gt P i)).getD (-1):=by
 unfold zbt
 rw [zGl (by simpa using h),zGl h,List.getElem_map]
theorem copyints_ok [OB] {lim c:Nat} {p:Option Addr} {l:List Int} {H:zH} {Q:Value→zH→Prop} (hs:Sl H encI 1 p l) (hn:l.length<2 ^ 40) (hlim:lim≤H.length)
  (hQ:∀G p' c',Own H.length G encI 1 p' c' l→Chg [] H G→Q (.slice p' l.length c') G):za0 E false lim 36 [.slice p l.length c] H Q:=by
 refine zbq (by decide) e36 rfl ?_
 rw [b36,c36]
 obtain ⟨G2,p',c',e2,O2,C2,K2,hl2⟩:=(Own.nil (lim:=H.length) (G:=H) (enc:=encI) (e:=1)).more (lim':=lim) (bytes:=8) hlim zIl (by decide) l (by simp;unfold za3;omega) (by simp;omega) (Nat.le_refl _) [] (x:=.slice p l.length c) (str:=false) (zbk (hs.app _)) rfl
 simp only [List.length_nil,Nat.zero_add,List.nil_append] at e2 O2
 simp only [n36,r36,e2,SB,seval,zCa,aOp,zB,aUn,reduceCtorEq,zFr,place,zTu,zRe]
 exact hQ _ p' c' O2 (C2 [] H (Nat.le_refl _) Chg.refl)
theorem copylegs_ok [OB] {lim c:Nat} {p:Option Addr} {l:List Leg} {H:zH} {Q:Value→zH→Prop} (hs:Sl H encL 8 p l) (hn:l.length<2 ^ 38) (hlim:lim≤H.length)
  (hQ:∀G p' c',Own H.length G encL 8 p' c' l→Chg [] H G→Q (.slice p' l.length c') G):za0 E false lim 37 [.slice p l.length c] H Q:=by
 refine zbq (by decide) e37 rfl ?_
 rw [b37,c37]
 obtain ⟨G2,p',c',e2,O2,C2,K2,hl2⟩:=(Own.nil (lim:=H.length) (G:=H) (enc:=encL) (e:=8)).more (lim':=lim) (bytes:=64) hlim zLl (by decide) l (by simp;unfold za3;omega) (by simp;omega) (Nat.le_refl _) [] (x:=.slice p l.length c) (str:=false) (zbk (hs.app _)) rfl
 simp only [List.length_nil,Nat.zero_add,List.nil_append] at e2 O2
 simp only [n37,r37,e2,SB,seval,zCa,aOp,zB,aUn,reduceCtorEq,zFr,place,zTu,zRe]
 exact hQ _ p' c' O2 (C2 [] H (Nat.le_refl _) Chg.refl)
theorem copynet_ok [OB] {lim cp cl:Nat} {pp pl:Option Addr} {P:List Int} {L:List Leg} {H:zH} {Q:Value→zH→Prop} (hp:Sl H encI 1 pp P) (hl:Sl H encL 8 pl L) (hnp:P.length<2 ^ 40) (hnl:L.length<2 ^ 38) (hlim:lim≤H.length)
  (hQ:∀G pp' cp' pl' cl',Own H.length G encI 1 pp' cp' P→Own H.length G encL 8 pl' cl' L→Chg [] H G→Q (.agg (netV pp' P.length cp' pl' L.length cl').toArray) G) :
  za0 E false lim 15 [.agg (netV pp P.length cp pl L.length cl).toArray] H Q:=by
 refine zbq (by decide) e15 rfl ?_
 rw [b15,c15]
 simp only [n15,r15,zNl,zN0,zN1,hlim,SB,seval,zCa,aOp,zB,aUn,reduceCtorEq,zFr,place,zTu,zRe]
 refine copyints_ok (hp.app _) hnp (by simp;omega) fun G1 p1 c1 hO1 hC1=>?_
 have hl1:=hC1.len
 simp only [List.length_append,List.length_cons,List.length_nil] at hl1 hO1
 have b0:zG G1 H.length=.cells false (netV pp P.length cp pl L.length cl):=hC1.cells zHn (by simp)
 have b1:zG G1 (H.length+1)=.cells false [.slice none 0 0,.slice none 0 0]:=hC1.cells zHw (by simp)
 obtain ⟨G2,e2,k2,m2⟩:=za4 (zHa b0) (.cells false (netV p1 P.length c1 pl L.length cl))
 have k2X:=fun Z=>(Ext.refl.app (X:=Z)).cells k2
 have b0X:=fun Z=>(Ext.refl.app (X:=Z)).cells b0
 simp only [netV] at e2 b0X
 refine zRp ?_
 simp only [n15,r15,zNl,zN0,zN1,b0X,e2,k2X,hlim,SB,seval,zCa,aOp,zB,aUn,reduceCtorEq,zFr,place,zTu,zRe]
 have hl2:=m2.len
 have hCl:Chg [] H G1:=hC1.pre
 have sl2:Sl G2 encL 8 pl L:=m2.sl (hCl.sl hl fun _ _ _ h=>by cases h) fun a ha hn=>by rw [ha] at hl;have:=hl.lt hn;omega
 refine copylegs_ok (sl2.app _) hnl (by simp;omega) fun G3 p3 c3 hO3 hC3=>?_
 have hl3:=hC3.len
 simp only [List.length_append,List.length_nil,Nat.add_zero] at hl3 hO3
 have b03:zG G3 H.length=.cells false (netV p1 P.length c1 pl L.length cl):=hC3.cells (k2X []) (by simp)
 obtain ⟨G4,e4,k4,m4⟩:=za4 (zHa b03) (.cells false (netV p1 P.length c1 p3 L.length c3))
 have k4X:=fun Z=>(Ext.refl.app (X:=Z)).cells k4
 have b03X:=fun Z=>(Ext.refl.app (X:=Z)).cells b03
 have b13:zG G4 (H.length+1)=.cells false [.slice none 0 0,.slice none 0 0]:=m4.cells (hC3.cells ((Ext.refl.app).cells (m2.cells b1 (by omega))) (by simp)) (by omega)
 have b13X:=fun Z=>(Ext.refl.app (X:=Z)).cells b13
 have hl4:=m4.len
 obtain ⟨G5,e5,k5,m5⟩:=za4 (zHa b13) (.cells false (netV p1 P.length c1 p3 L.length c3))
 have k5X:=fun Z=>(Ext.refl.app (X:=Z)).cells k5
 simp only [netV] at e4 b03X e5 k5X k4X
 refine zRp ?_
 simp only [n15,r15,b03X,e4,k4X,b13X,e5,k5X,hlim,show lim≤H.length+1 by omega,zSa,SB,seval,zCa,aOp,zB,aUn,reduceCtorEq,zFr,place,zTu,zRe]
 have hO1':Own H.length G5 encI 1 p1 c1 P:=((((hO1.mut m2 fun a ha=>by have:=(hO1.block ha).1;omega).app []).chg hC3 (fun _ _=>by simp)).mut m4 fun a ha=>by have:=(hO1.block ha).1;omega).mut m5 (fun a ha=>by have:=(hO1.block ha).1;omega) |>.le (by omega)
 have hO3':Own H.length G5 encL 8 p3 c3 L:=(((hO3.mut m4 fun a ha=>by have:=(hO3.block ha).1;omega).mut m5 fun a ha=>by have:=(hO3.block ha).1;omega)).le (by omega)
 refine hQ _ p1 c1 p3 c3 (hO1'.app _) (hO3'.app _) ?_
 refine ((((((hCl.mut m2 (.inr (Nat.le_refl _))).app).trans hC3).mut m4 (.inr (Nat.le_refl _))).mut m5 (.inr (by omega)))).app
theorem valid_set {P:List Int} {L:List Leg} {k:Nat} {y:Leg} (h:za6 P L=0) (hk:k<L.length) (hy:Fine y) (h1:y.id=(gt L k).id) (h2:y.frm=(gt L k).frm) (h3:y.dst=(gt L k).dst):za6 P (L.set k y)=0:=by
 obtain ⟨q1,q2,q3,q4⟩:=zdi h
 have e:∀i,gt (L.set k y) i=if i=k then y else gt L i:=fun i=>Flow.gt_set hk
 have hid:∀i,((L.set k y).take i).map (·.id)=(L.take i).map (·.id):=fun i=>by
  rw [List.take_set,List.map_set,h1]
  by_cases hi:k<i
  ·have hl:k<((L.take i).map (·.id)).length:=by simp;omega
   have:(gt L k).id=((L.take i).map (·.id))[k]:=by rw [List.getElem_map,List.getElem_take,zGl hk]
   rw [this,List.set_getElem_self]
  ·rw [List.set_eq_of_length_le (by simp;omega)]
 have hL:LegsOk P (L.set k y):=fun i hi=>by
  rw [List.length_set] at hi
  obtain ⟨p1,p2,p3,p4⟩:=q4 i hi
  unfold lOk
  rw [e,hid]
  by_cases hik:i=k
  ·subst hik
   rw [if_pos rfl]
   exact ⟨hy,by rw [h1];exact p2,by rw [h2];exact p3,by rw [h3];exact p4⟩
  ·rw [if_neg hik];exact ⟨p1,p2,p3,p4⟩
 unfold za6
 rw [if_neg (by rw [List.length_set];omega),if_neg (fun h=>h q3),if_neg (fun h=>h hL)]
theorem ld_eqv {a b:Flow.Ld}:aEq (.agg [.int .i64,.int .i64,.int .i64,.int .i64]) (.agg (encD a).toArray) (.agg (encD b).toArray)=some (decide (a=b)):=by
 simp only [aEq,encD,zCe,zcr,and_self,if_true]
 congr 1
 rw [Bool.eq_iff_iff]
 cases a;cases b
 simp [and_assoc]
theorem same_ok [OB] {mp:Bool} {lim ca cb:Nat} {p q:Option Addr} {a b:List Flow.Ld} {H:zH} {Q:Value→zH→Prop} (ha:Sl H encD 4 p a) (hb:Sl H encD 4 q b) (hn:a.length<2 ^ 62) :
  za0 E mp lim 23 [.slice p a.length ca,.slice q b.length cb] H Q=Q (.bool (decide (a=b))) H:=by
 refine pc (by decide) e23 rfl rfl ?_
 rw [b23,c23]
 by_cases hl:a.length=b.length
 case neg=>
  have h1:¬(a.length:Int)=(b.length:Int):=by omega
  simp only [n23,r23,eq_false h1,SB,seval,zCa,aOp,zB,aUn,reduceCtorEq,zFr,place,zTu,zRe]
  congr 1
  rw [eq_comm,decide_eq_false_iff_not]
  rintro rfl
  exact hl rfl
 have h1:(a.length:Int)=(b.length:Int):=by omega
 simp only [n23,r23,eq_true h1,SB,seval,zCa,aOp,zB,aUn,reduceCtorEq,zFr,place,zTu,zRe]
 refine zRr (fun j=>a.length-j) (fun j fr G=>j≤a.length∧fr 0=.slice p a.length ca∧fr 1=.slice q b.length cb∧fr 5=.int .i64 (j:Int)∧Ext H G∧∀i,i<j→gt a i=gt b i) 0 ⟨Nat.zero_le _,(by rfl),(by rfl),by rfl,Ext.refl.app,fun i hi=>by omega⟩ ?_
 intro j fr G ⟨hj,f0,f1,f5,hE,hall⟩ hN
 rw [zRc l23_1.eq_1]
 refine zRp ?_
 by_cases hlt:j<a.length
 case neg=>
  obtain rfl:j=a.length:=by omega
  simp only [n23,r23,f0,f1,f5,hlt,SB,seval,zCa,aOp,zB,aUn,reduceCtorEq,zFr,place,zTu,zRe]
  rw [decide_eq_true (same_all hl hall)]
 have l1:=fun X=>((hE.sl ha).app X).loadCells zDl hlt
 have l2:=fun X=>((hE.sl hb).app X).loadCells zDl (by omega:j<b.length)
 have x1:=fun c (kk:IntKind) (H1:zH)=>(hE.sl ha).idx (c:=c) (k:=kk) (H1:=H1) hlt
 have x2:=fun c (kk:IntKind) (H1:zH)=>(hE.sl hb).idx (c:=c) (k:=kk) (H1:=H1) (by omega:j<b.length)
 have hw1:IntKind.i64.wrap ((j:Int)+1)=((j+1:Nat):Int):=zWn (by omega)
 have hq:=ld_eqv (a:=gt a j) (b:=gt b j)
 by_cases he:gt a j=gt b j
 ·rw [decide_eq_true he] at hq
  simp only [n23,r23,f0,f1,f5,hlt,l1,l2,x1,x2,hw1,hq,SB,seval,zCa,aOp,zB,aUn,reduceCtorEq,zFr,place,zTu,zRe]
  exact hN (j+1) _ _ ⟨by omega,by exact f0,by exact f1,(by rfl),hE.app,same_step hl hlt hall he⟩ (by omega)
 ·rw [decide_eq_false he] at hq
  simp only [n23,r23,f0,f1,f5,hlt,l1,l2,x1,x2,hw1,hq,SB,seval,zCa,aOp,zB,aUn,reduceCtorEq,zFr,place,zTu,zRe]
  rw [decide_eq_false]
  rintro rfl
  exact he rfl
theorem leg_uniq {P:List Int} {L:List Leg} (h:za6 P L=0) {a b:Leg} (ha:a∈L) (hb:b∈L) (e:a.id=b.id):a=b:=by
 have hL:=(zdi h).2.2.2
 obtain ⟨i,hi,rfl⟩:=List.mem_iff_getElem.1 ha
 obtain ⟨j,hj,rfl⟩:=List.mem_iff_getElem.1 hb
 have key:∀i j,(hi:i<L.length)→(hj:j<L.length)→i<j→L[i].id≠L[j].id:=fun i j hi hj hij e=>by
  have:=(hL j hj).2.1
  rw [zGl hj,←e] at this
  exact this (List.mem_map.2 ⟨L[i],List.mem_take_iff_getElem.2 ⟨i,by omega,rfl⟩,rfl⟩)
 rcases Nat.lt_trichotomy i j with h1 | h1 | h1
 ·exact absurd e (key i j hi hj h1)
 ·subst h1;rfl
 ·exact absurd e.symm (key j i hj hi h1)
structure BP (fr:Nat→Value) (v1 v2 v3 v5 v11 v14 v16 v18:Value):Prop where
 f1:fr 1=v1
 f2:fr 2=v2
 f3:fr 3=v3
 f5:fr 5=v5
 f11:fr 11=v11
 f14:fr 14=v14
 f16:fr 16=v16
 f18:fr 18=v18
end Go.Proofs.YtohnaffmcjbpoaaGreat.Fn

namespace Go.Flow
open Go.AM Go.Net
def zav:List (Leg×Int)→List Pr→List Ld
 | c::C,p::l=>(if 0<p.flow then [⟨c.1.id,c.2,c.2+c.1.mins,p.flow⟩] else [])++zav C l
 | _,_=>[]
theorem planL_snoc:∀{C:List (Leg×Int)} {l:List Pr} {j:Nat},j<C.length→j<l.length→zav (C.take (j+1)) l=zav (C.take j) l++(if 0<(gt l j).flow then [⟨(gt C j).1.id,(gt C j).2,(gt C j).2+(gt C j).1.mins,(gt l j).flow⟩] else [])
 | c::C,p::l,0,_,_=>by
   show zav [c] (p::l)=[]++_
   have:zav [] l=[]:=by cases l<;>rfl
   simp only [zav,this,List.append_nil,List.nil_append]
   rfl
 | c::C,p::l,j+1,h1,h2=>by
   rw [List.take_succ_cons,List.take_succ_cons,zav,zav,planL_snoc (by simpa using h1) (by simpa using h2),zGc,zGc,List.append_assoc]
theorem planL_len:∀{C:List (Leg×Int)} {l:List Pr},(zav C l).length≤C.length
 | [],l=>by cases l<;>simp [zav]
 | c::C,[]=>by simp [zav]
 | c::C,p::l=>by
   have:=planL_len (C:=C) (l:=l)
   unfold zav
   rw [List.length_append,List.length_cons]
   split<;>simp<;>omega
theorem gt_drop {α:Type} [Inhabited α] {l:List α} {n j:Nat}:gt (l.drop n) j=gt l (n+j):=by
 unfold gt
 rw [List.getD_eq_getElem?_getD,List.getD_eq_getElem?_getD,List.getElem?_drop]
end Go.Flow
namespace Go.Proofs.YtohnaffmcjbpoaaGreat.Fn
open Go.AM Go.AM.Sym Go.Net Go.Flow
structure PlanOf (P:List Int) (L:List Leg) (s:List Flow.Src) (to dl:Int) (SL:List (Int×Int)) (l:List Pr):Prop where
 pl:PlOk SL to dl s (zCc L to dl)
 al:Flow.Alike (zap SL to dl s (zCc L to dl)) l
 fl:IsFlow (SL.length+2) l
 val:Flow.exc 1 l=mostN s (zCc L to dl) to dl
theorem plan_ok [OB] {lim:Nat} {pp pl ps:Option Addr} {P:List Int} {L:List Leg} {s:List Flow.Src} {cp cl cs:Nat} {to dl:Int} {H:zH} {Q:Value→zH→Prop} (hn:NetIn H pp pl P L) (hs:Sl H encS 3 ps s) (hLl:L.length≤8) (hlim:lim≤H.length) (ha:zAn P L s to dl=0)
  (hQ:∀G q c SD SL l,Own H.length G encD 4 q c SD→SD.Perm (zav (zCc L to dl) (l.drop (zCp SL 2++srcP SL to dl s).length))→SD.Pairwise (fun x y=>¬ldLt y x)→PlanOf P L s to dl SL l→Chg [] H G→Q (.tuple #[.slice q SD.length c,.int .i64 0]) G) :
  za0 E false lim 21 [.agg (netV pp P.length cp pl L.length cl).toArray,.slice ps s.length cs,.int .i64 to,.int .i64 dl] H Q:=by
 have hA:=allowed_0 ha
 have hsl:s.length<2 ^ 63:=by have:=hA.ns;omega
 have hCn:=countC_len (to:=to) (dl:=dl) hA.net.fine
 refine zbq (by decide) e21 rfl ?_
 rw [b21,c21]
 refine zRp ?_
 simp only [n21,r21,zNl,zN0,zN1,hlim,zd1 (hn.app _) (hs.app _) hsl,ha,SB,seval,zCa,aOp,zB,aUn,reduceCtorEq,zFr,place,zTu,zRe]
 refine build_ok (by simp;omega) (hs.app _) (hn.app _).sl hA.net.fine hLl hA.d0 hA.d1 (by have:=hA.ns;omega) (fun x hx=>(hA.src x hx).2) fun G A SL Lv l out Lb cp' ca cv cw pp' pa pw vm vo v5 hB=>?_
 have kA:=fun Z=>(Ext.refl.app (X:=Z)).cells hB.hdr
 have hGl:=hB.len
 simp only [List.length_append,List.length_cons,List.length_nil] at hGl
 have hCG:Chg [] H G:=⟨by omega,fun j hj _=>(hB.keep j (by simp;omega)).trans (zHo hj)⟩
 obtain ⟨C,hC⟩:∃C,C=zCc L to dl:=⟨_,rfl⟩
 obtain ⟨n,hn0⟩:∃n,n=(zCp SL 2++srcP SL to dl s).length:=⟨_,rfl⟩
 obtain ⟨X,hX⟩:∃X,X=l.drop n:=⟨_,rfl⟩
 have hll:l.length=n+C.length:=by
  rw [hB.al.len,hn0,hC]
  unfold zap
  rw [List.length_append (bs:=wayP SL to (zCc L to dl)),wayP_len]
 have hXl:X.length=C.length:=by rw [hX,List.length_drop];omega
 have hsw:=hB.sw
 rw [←hC,←hn0] at hsw
 rw [←hC] at hCn
 have hns:=hB.ns
 have hnb:n<2 ^ 40:=by
  have h1:=srcP_len (PL:=SL) (to:=to) (dl:=dl) (s:=s)
  have h2:∀(PL:List (Int×Int)) (i:Nat),(zCp PL i).length≤PL.length:=fun PL=>by
   induction PL with
   | nil=>intro i;simp [zCp]
   | cons a PL ih=>
     intro i
     cases PL with
     | nil=>simp [zCp]
     | cons b PL=>
       have:=ih (i+1)
       unfold zCp
       rw [List.length_append,List.length_cons]
       split<;>simp at this⊢<;> omega
  have:=h2 SL 2
  have:=hA.ns
  rw [hn0,List.length_append];omega
 refine zRp ?_
 rw [←hC] at kA
 simp only [n21,r21,kA,SB,seval,zCa,aOp,zB,aUn,reduceCtorEq,zFr,place,zTu,zRe]
 refine zRr (fun z:Nat×Option Addr×Nat=>C.length-z.1) (fun z fr G'=>z.1≤C.length∧fr 11=.pointer (some ⟨A,0,none⟩)∧fr 32=.slice pw C.length cw∧fr 33=.int .i64 (C.length:Int)∧fr 34=.int .i64 (z.1:Int)∧fr 12=.slice z.2.1 (zav (C.take z.1) X).length z.2.2∧Own G.length G' encD 4 z.2.1 z.2.2 (zav (C.take z.1) X)∧Chg [] G G') (0,none,0)
  ⟨Nat.zero_le _,(by rfl),(by rfl),(by rfl),by rfl,by rw [show zav (C.take 0) X=[] by cases X<;>rfl];rfl,by rw [show zav (C.take 0) X=[] by cases X<;>rfl];exact .nil,Chg.refl.app⟩ ?_
 rintro ⟨j,q,c⟩ fr G' ⟨hj,f11,f32,f33,f34,f12,hO,hCh⟩ hN
 simp only at hj f34 f12 hO
 rw [zRc l21_1.eq_1]
 refine zRp ?_
 have hGl':=hCh.len
 have hpl:=planL_len (C:=C.take j) (l:=X)
 rw [List.length_take] at hpl
 by_cases hlt:j<C.length
 case neg=>
  obtain rfl:j=C.length:=by omega
  rw [List.take_length] at hO f12
  simp only [n21,r21,f11,f32,f33,f34,f12,hlt,SB,seval,zCa,aOp,zB,aUn,reduceCtorEq,zFr,place,zTu,zRe]
  rw [List.take_length] at hpl
  refine sortL_ok (hO.app _) (by omega) (by omega) fun G4 SD hO4 hperm hpw hk4 hl4=>?_
  simp only [List.length_append,List.length_nil,Nat.add_zero] at hl4 hk4
  refine zRp ?_
  simp only [n21,r21,f12,SB,seval,zCa,aOp,zB,aUn,reduceCtorEq,zFr,place,zTu,zRe]
  have hpl2:=hperm.length_eq
  rw [←hpl2]
  refine hQ _ q c SD SL l ((hO4.le (by omega)).app _) (by rw [←hC,←hn0,←hX];exact hperm) hpw ⟨hB.pl,hB.al,hB.fl,(zbe hB.best).1⟩ ?_
  refine Chg.app ⟨by omega,fun b hb _=>?_⟩
  rw [hk4 b (by omega) fun hm=>by obtain ⟨a,ha',e⟩:=zOm.1 hm;have:=(hO.block ha').1;omega,List.append_nil,hCh.other b (by omega) (by simp),hCG.other b hb (by simp)]
 have hwl:(zcl (2*n) C).length=C.length:=waysL_len
 have sw':=hCh.sl hsw fun _ _ _=>by simp
 have lW:=fun Z=>(sw'.app Z).loadCells zb5 (i:=j) (by omega)
 have eW:=waysL_gt (n:=2*n) hlt
 simp only [eW] at lW
 have xW:=ix_N sw' hlt hwl
 have sa':=hCh.sl hB.sa fun _ _ _=>by simp
 have kA0:=hB.hdr
 rw [←hC] at kA0
 have kA2:=fun Z=>(Ext.refl.app (X:=Z)).cells (hCh.cells kA0 (by simp))
 obtain ⟨a,ha'⟩:∃a,a=2*n+2*j:=⟨_,rfl⟩
 have eta:tw a=2*(n+j)+1:=by unfold tw;rw [if_pos (by omega)];omega
 have hxor:IntKind.i64.wrap (((BitVec.ofInt IntKind.i64.bits (a:Int) ^^^ BitVec.ofInt IntKind.i64.bits 1).toNat:Nat):Int)=((tw a:Nat):Int):=xor_v (n:=a) (by omega)
 rw [←ha'] at lW
 have xA:=ix_N (i:=tw a) (n:=2*l.length) sa' (by omega) zah
 have lA:∀Z,AM.loadCell (G'++Z) ((elt pa 2 (tw a)).add 1)=some (.int .i64 (gt X j).flow):=fun Z=>by
  have:=(sa'.app Z).loadCell z2l (i:=tw a) (by rw [zah];omega) (j:=1) (by decide)
  rw [this,arcsV_gt (by omega),eta,rm_odd,hX,gt_drop]
  rfl
 have w1:IntKind.i64.wrap ((j:Int)+1)=((j+1:Nat):Int):=zWn (by omega)
 have et:=planL_snoc (C:=C) (l:=X) hlt (by omega)
 obtain ⟨fl,hfl⟩:∃fl,fl=(gt X j).flow:=⟨_,rfl⟩
 rw [←hfl] at lA et
 have hlG:lim≤G'.length:=by omega
 obtain ⟨G2,e2,O2,C2,K2,hl2,_⟩:=hO.step (lim':=lim) (bytes:=32) (by omega) zDl (by decide) (⟨(gt C j).1.id,(gt C j).2,(gt C j).2+(gt C j).1.mins,fl⟩:Flow.Ld) (by unfold za3;omega) (by omega) hGl' [.cells false (encW (gt C j,a)),.cells false (encD ⟨(gt C j).1.id,(gt C j).2,(gt C j).2+(gt C j).1.mins,fl⟩)] (G'.length+1) 1 (by rw [zHw];rfl)
 simp only [List.length_cons,List.length_nil,Nat.zero_add,List.append_nil,Nat.reduceAdd] at e2 O2 K2
 have e2':zAa lim none 4 32 false (.slice q (zav (C.take j) X).length c) (.slice (some ⟨G'.length+1,0,none⟩) 1 1) (G'++[.cells false (encW (gt C j,a)),.cells false [.int .i64 (gt C j).1.id,.int .i64 (gt C j).2,.int .i64 ((gt C j).2+(gt C j).1.mins),.int .i64 fl]])=some (.slice (some ⟨G'.length+2,0,none⟩) ((zav (C.take j) X).length+1) (loose 4),G2++[]):=by rw [List.append_nil];exact e2
 by_cases g1:0<fl
 ·rw [if_pos g1] at et
  simp only [n21,r21,f11,f32,f33,f34,f12,hlt,lW,xW,kA2,hxor,xA,lA,w1,zb5,encW_0,encW_1,encW_2,encW_5,encW_6,encW_8,encW_9,encW_10,encW_82,zSa,hlG,eq_true g1,e2',SB,seval,zCa,aOp,zB,aUn,reduceCtorEq,zFr,place,zTu,zRe]
  refine hN (j+1,some ⟨G'.length+2,0,none⟩,loose 4) _ _ ⟨by show j+1≤_;omega,by exact f11,by exact f32,by exact f33,(by rfl),by rw [et,List.length_append,List.length_singleton];exact (by rfl),by rw [et];exact O2.app _,C2 [] G (Nat.le_refl _) hCh⟩ (by show C.length-(j+1)<C.length-j;omega)
 ·rw [if_neg g1,List.append_nil] at et
  simp only [n21,r21,f11,f32,f33,f34,f12,hlt,lW,xW,kA2,hxor,xA,lA,w1,zb5,encW_0,encW_1,encW_2,encW_5,encW_6,encW_8,encW_9,encW_10,encW_82,zSa,hlG,eq_false g1,SB,seval,zCa,aOp,zB,aUn,reduceCtorEq,zFr,place,zTu,zRe]
  refine hN (j+1,q,c) _ _ ⟨by show j+1≤_;omega,by exact f11,by exact f32,by exact f33,(by rfl),by rw [et];exact (by exact f12),by rw [et];exact hO.app _,hCh.app⟩ (by show C.length-(j+1)<C.length-j;omega)
end Go.Proofs.YtohnaffmcjbpoaaGreat.Fn

namespace Go.Flow
open Go.AM Go.Net
abbrev Cg:=Int×Int×Int
def cgLt (a b:Cg):Prop:=a.1<b.1∨a.1=b.1∧(a.2.1<b.2.1∨a.2.1=b.2.1∧b.2.2<a.2.2)
instance (a b:Cg):Decidable (cgLt a b):=by unfold cgLt;infer_instance
def balC (p t:Int):List Cg→Int
 | []=>0
 | x::l=>(if x.1=p∧x.2.1≤t then x.2.2 else 0)+balC p t l
def sumP (p:Int):List Cg→Int
 | []=>0
 | x::l=>(if x.1=p then x.2.2 else 0)+sumP p l
theorem balC_app {p t:Int}:∀{a b:List Cg},balC p t (a++b)=balC p t a+balC p t b
 | [],b=>by simp [balC]
 | x::a,b=>by rw [List.cons_append,balC,balC,balC_app];omega
theorem sumP_app {p:Int}:∀{a b:List Cg},sumP p (a++b)=sumP p a+sumP p b
 | [],b=>by simp [sumP]
 | x::a,b=>by rw [List.cons_append,sumP,sumP,sumP_app];omega
theorem balC_perm {p t:Int} {a b:List Cg} (h:a.Perm b):balC p t a=balC p t b:=by
 induction h with
 | nil=>rfl
 | cons x h ih=>simp only [balC,ih]
 | swap x y l=>simp only [balC];omega
 | trans h1 h2 i1 i2=>exact i1.trans i2
theorem sumP_none {p:Int}:∀{l:List Cg},(∀x∈l,x.1≠p)→sumP p l=0
 | [],_=>rfl
 | x::l,h=>by
   rw [sumP,if_neg (h x List.mem_cons_self),sumP_none fun y hy=>h y (List.mem_cons_of_mem _ hy)];rfl
theorem balC_all {p t:Int}:∀{l:List Cg},(∀x∈l,x.1=p→x.2.1≤t)→balC p t l=sumP p l
 | [],_=>rfl
 | x::l,h=>by
   rw [balC,sumP,balC_all fun y hy=>h y (List.mem_cons_of_mem _ hy)]
   have:=h x List.mem_cons_self
   by_cases h1:x.1=p
   ·rw [if_pos ⟨h1,this h1⟩,if_pos h1]
   ·rw [if_neg fun q=>h1 q.1,if_neg h1]
theorem balC_zero {p t:Int}:∀{l:List Cg},(∀x∈l,x.1=p→t<x.2.1)→balC p t l=0
 | [],_=>rfl
 | x::l,h=>by
   rw [balC,balC_zero fun y hy=>h y (List.mem_cons_of_mem _ hy)]
   have:=h x List.mem_cons_self
   rw [if_neg fun q=>by have:=this q.1;omega];rfl
theorem balC_neg {p t:Int}:∀{l:List Cg},(∀x∈l,x.1=p→x.2.1≤t→x.2.2≤0)→balC p t l≤0
 | [],_=>Int.le_refl _
 | x::l,h=>by
   rw [balC]
   have ih:=balC_neg (p:=p) (t:=t) (l:=l) fun y hy=>h y (List.mem_cons_of_mem _ hy)
   have:=h x List.mem_cons_self
   split
   ·rename_i hc;have:=this hc.1 hc.2;omega
   ·omega
theorem balC_less {p t u:Int}:∀{l:List Cg},(∀x∈l,x.1=p→x.2.1≤u∨0≤x.2.2)→balC p u l≤sumP p l
 | [],_=>Int.le_refl _
 | x::l,h=>by
   rw [balC,sumP]
   have ih:=balC_less (t:=t) (p:=p) (u:=u) (l:=l) fun y hy=>h y (List.mem_cons_of_mem _ hy)
   have:=h x List.mem_cons_self
   by_cases h1:x.1=p
   ·rw [if_pos h1]
    split
    ·omega
    ·rename_i hc;have:=this h1;omega
   ·rw [if_neg fun q=>h1 q.1,if_neg h1];omega
theorem runs_bal {S:List Cg} (hs:S.Pairwise fun x y=>¬cgLt y x):(∀i,i<S.length→0≤sumP (gt S i).1 (S.take (i+1)))↔∀p t,0≤balC p t S:=by
 have hp:=List.pairwise_iff_getElem.1 hs
 have hpg:∀i j,i<j→j<S.length→¬cgLt (gt S j) (gt S i):=fun i j hij hj=>by
  have:=hp i j (by omega) hj hij
  rw [zGl hj,zGl (show i<S.length by omega)];exact this
 have mt:∀{k:Nat} {x:Cg},x∈S.take k→∃j,j<k∧j<S.length∧x=gt S j:=fun {k x} hx=>by
  obtain ⟨j,hj,rfl⟩:=List.mem_iff_getElem.1 hx
  rw [List.length_take] at hj
  exact ⟨j,by omega,by omega,by rw [List.getElem_take,zGl]⟩
 have md:∀{k:Nat} {x:Cg},x∈S.drop k→∃j,k≤j∧j<S.length∧x=gt S j:=fun {k x} hx=>by
  obtain ⟨j,hj,rfl⟩:=List.mem_iff_getElem.1 hx
  rw [List.length_drop] at hj
  exact ⟨k+j,by omega,by omega,by rw [List.getElem_drop,zGl]⟩
 constructor
 ·intro h p t
  have key:∀k,k≤S.length→0≤balC p t (S.take k):=fun k=>by
   induction k with
   | zero=>intro _;exact Int.le_refl _
   | succ k ih=>
     intro hk
     have ih:=ih (by omega)
     by_cases hc:(gt S k).1=p∧(gt S k).2.1≤t
     ·rw [balC_all fun x hx hxp=>?_]
      ·have:=h k (by omega)
       rw [hc.1] at this;exact this
      ·obtain ⟨j,hj,hjl,rfl⟩:=mt hx
       by_cases hjk:j=k
       ·rw [hjk];exact hc.2
       ·have:=hpg j k (by omega) (by omega)
        unfold cgLt at this
        omega
     ·rw [zb1 (by omega),balC_app]
      show 0≤balC p t (S.take k)+((if _ then _ else _)+0)
      rw [if_neg hc];omega
  have:=key S.length (Nat.le_refl _)
  rw [List.take_length] at this;exact this
 ·intro h i hi
  have e:∀p t,balC p t S=balC p t (S.take (i+1))+balC p t (S.drop (i+1)):=fun p t=>by rw [←balC_app,List.take_append_drop]
  by_cases hg:0≤(gt S i).2.2
  ·have h1:=h (gt S i).1 ((gt S i).2.1-1)
   rw [e,balC_zero (l:=S.drop (i+1)) fun x hx hxp=>?_] at h1
   ·have:=balC_less (t:=0) (p:=(gt S i).1) (u:=(gt S i).2.1-1) (l:=S.take (i+1)) fun x hx hxp=>?_
    ·omega
    ·obtain ⟨j,hj,hjl,rfl⟩:=mt hx
     by_cases hji:j=i
     ·rw [hji];exact .inr hg
     ·have:=hpg j i (by omega) hi
      unfold cgLt at this
      omega
   ·obtain ⟨j,hj,hjl,rfl⟩:=md hx
    have:=hpg i j (by omega) hjl
    unfold cgLt at this
    omega
  ·have h1:=h (gt S i).1 (gt S i).2.1
   rw [e,balC_all (l:=S.take (i+1)) fun x hx hxp=>?_] at h1
   ·have:=balC_neg (p:=(gt S i).1) (t:=(gt S i).2.1) (l:=S.drop (i+1)) fun x hx hxp hxt=>?_
    ·omega
    ·obtain ⟨j,hj,hjl,rfl⟩:=md hx
     have:=hpg i j (by omega) hjl
     unfold cgLt at this
     omega
   ·obtain ⟨j,hj,hjl,rfl⟩:=mt hx
    by_cases hji:j=i
    ·rw [hji];exact Int.le_refl _
    ·have:=hpg j i (by omega) hi
     unfold cgLt at this
     omega
theorem sumP_step {S:List Cg} (hs:S.Pairwise fun x y=>¬cgLt y x) {i:Nat} (hi:i<S.length):sumP (gt S i).1 (S.take (i+1))=(if 0<i∧(gt S (i-1)).1≠(gt S i).1 then 0 else sumP (gt S (i-1)).1 (S.take i))+(gt S i).2.2:=by
 rw [zb1 hi,sumP_app]
 have e:sumP (gt S i).1 [gt S i]=(gt S i).2.2:=by simp [sumP]
 rw [e]
 congr 1
 have hp:=List.pairwise_iff_getElem.1 hs
 by_cases hc:0<i∧(gt S (i-1)).1≠(gt S i).1
 ·rw [if_pos hc]
  refine sumP_none fun x hx=>?_
  obtain ⟨j,hj,rfl⟩:=List.mem_iff_getElem.1 hx
  rw [List.length_take] at hj
  rw [List.getElem_take]
  intro e
  have h1:¬cgLt S[i] S[i-1]:=hp (i-1) i (by omega) hi (by omega)
  obtain ⟨hc1,hc2⟩:=hc
  rw [zGl (by omega),zGl hi] at hc2
  rw [zGl hi] at e
  by_cases hji:j=i-1
  ·subst hji;exact hc2 e
  ·have h2:¬cgLt S[i-1] S[j]:=hp j (i-1) (by omega) (by omega) (by omega)
   unfold cgLt at h1 h2
   omega
 ·rw [if_neg hc]
  by_cases h0:i=0
  ·subst h0;rfl
  ·have:(gt S (i-1)).1=(gt S i).1:=Classical.byContradiction fun h=>hc ⟨by omega,h⟩
   rw [this]
end Go.Flow

namespace Go.Proofs.YtohnaffmcjbpoaaGreat.Fn
open Go.AM Go.AM.Sym Go.Net Go.Flow Go.Sort
instance sortC [OB]:Srt.SortAt E zC:=⟨rfl,kn rfl rfl (by decide),kn rfl rfl (by decide),kn rfl rfl (by decide),kn rfl rfl (by decide),kn rfl rfl (by decide),kn rfl rfl (by decide),kn rfl rfl (by decide),kn rfl rfl (by decide),kn rfl rfl (by decide),kn rfl rfl (by decide),kn rfl rfl (by decide),kn rfl rfl (by decide),kn rfl rfl (by decide),kn rfl rfl (by decide),kn rfl rfl (by decide),kn rfl rfl (by decide),kn rfl rfl (by decide),kn rfl rfl (by decide)⟩
instance encC3:Srt.EncOk enc3 zC:=⟨fun _=>rfl⟩
def cmpC (a b:Cg):Int:=orL [cmpI a.1 b.1,cmpI a.2.1 b.2.1,cmpI b.2.2 a.2.2]
theorem cmpc_ok [OB] (mp:Bool) (lim:Nat) (a b:Cg) (H:zH) (Q:Value→zH→Prop):za0 E mp lim 77 [.agg (enc3 a).toArray,.agg (enc3 b).toArray] H Q=Q (.int .i64 (cmpC a b)) H:=by
 refine pc (by decide) e77 rfl rfl ?_
 rw [b77,c77]
 simp only [n77,r77,enc3,cmp_ok,or_lit,isCells_cells,cellsOf_cells,intsOf_cons,intsOf_nil,okInts_cons,okInts_nil,Nat.reducePow,SB,seval,zCa,aOp,zB,aUn,reduceCtorEq,zFr,place,zTu,zRe]
 rfl
theorem cmpC_lt {a b:Cg}:Srt.ltC cmpC a b=decide (cgLt a b):=by
 unfold Srt.ltC
 have e0:cmpC a b=if cmpI a.1 b.1≠0 then cmpI a.1 b.1 else if cmpI a.2.1 b.2.1≠0 then cmpI a.2.1 b.2.1 else if cmpI b.2.2 a.2.2≠0 then cmpI b.2.2 a.2.2 else 0:=rfl
 have e:cmpC a b<0↔cgLt a b:=by
  rw [e0]
  unfold cgLt
  rcases Int.lt_trichotomy a.1 b.1 with h | h | h
  ·rw [cmpI_1 h];simp [h]
  ·rw [cmpI_0 h]
   rcases Int.lt_trichotomy a.2.1 b.2.1 with h2 | h2 | h2
   ·rw [cmpI_1 h2];simp [h,h2]
   ·rw [cmpI_0 h2]
    rcases Int.lt_trichotomy b.2.2 a.2.2 with h3 | h3 | h3
    ·rw [cmpI_1 h3];simp [h,h2,h3]
    ·rw [cmpI_0 h3];simp [h,h2,h3]
    ·rw [cmpI_2 h3];simp [h,h2];omega
   ·rw [cmpI_2 h2];simp [h];omega
  ·rw [cmpI_2 h];simp;omega
 rw [Bool.eq_iff_iff,decide_eq_true_eq,decide_eq_true_eq]
 exact e
theorem cmpC_swo:SWO (Srt.ltC cmpC):=by
 refine ⟨fun x=>?_,fun x y z h1 h2=>?_,fun x y z h1 h2=>?_⟩
 ·rw [cmpC_lt];simp [cgLt]
 ·rw [cmpC_lt,decide_eq_true_eq] at h1 h2⊢
  unfold cgLt at *;omega
 ·rw [cmpC_lt,decide_eq_false_iff_not] at h1 h2⊢
  unfold cgLt at *;omega
theorem sumP_abs {p b:Int}:∀{l:List Cg},(∀x∈l,-b≤x.2.2∧x.2.2≤b)→0≤b→-(b*l.length)≤sumP p l∧sumP p l≤b*l.length
 | [],_,hb=>by simp [sumP]
 | x::l,h,hb=>by
   have ih:=sumP_abs (p:=p) (l:=l) (fun y hy=>h y (List.mem_cons_of_mem _ hy)) hb
   have:=h x List.mem_cons_self
   rw [sumP,List.length_cons]
   have e:b*((l.length+1:Nat):Int)=b*l.length+b:=by rw [Int.natCast_add,Int.mul_add];simp
   rw [e]
   split<;>omega
theorem enough_ok [OB] {lim lo c:Nat} {p:Option Addr} {ch:List Cg} {G:zH} {Q:Value→zH→Prop} (hO:Own lo G enc3 3 p c ch) (hlo:lim≤lo) (hlG:lim≤G.length) (hn:ch.length<1000) (hb:∀x∈ch,-100000000000≤x.2.2∧x.2.2≤100000000000)
  (hQ:∀b G',(b=true↔∀p t,0≤balC p t ch)→(∀x,x<G.length→x∉opB p→zG G' x=zG G x)→Q (.bool b) G') :
  za0 E false lim 46 [.slice p ch.length c] G Q:=by
 refine zbq (by decide) e46 rfl ?_
 rw [b46,c46]
 simp only [n46,r46,SB,seval,zCa,aOp,zB,aUn,reduceCtorEq,zFr,place,zTu,zRe]
 refine sortG_ok (iz:=zC) cmpc_ok cmpC_swo (hO.app _) hlo (by omega) fun G1 S hO1 hperm hpw hk1 hl1=>?_
 have hpw':S.Pairwise fun x y=>¬cgLt y x:=hpw.imp fun h=>by rw [cmpC_lt,decide_eq_false_iff_not] at h;exact h
 have hlen:=hperm.length_eq
 have hSb:∀x∈S,-100000000000≤x.2.2∧x.2.2≤100000000000:=fun x hx=>hb x (hperm.mem_iff.1 hx)
 simp only [List.length_append,List.length_nil,Nat.add_zero] at hl1
 have hbal:(∀p t,0≤balC p t S)↔∀p t,0≤balC p t ch:=⟨fun h p t=>by rw [←balC_perm hperm];exact h p t,fun h p t=>by rw [balC_perm hperm];exact h p t⟩
 have hrb:=(runs_bal hpw').trans hbal
 have hkx:∀G'',Ext G1 G''→∀x,x<G.length→x∉opB p→zG G'' x=zG G x:=fun G'' hE x h1 h2=>by
  obtain ⟨Y,rfl⟩:=hE
  rw [zHo (by omega),hk1 x (by simp;omega) h2,List.append_nil]
 refine zRp ?_
 rw [←hlen]
 simp only [n46,r46,SB,seval,zCa,aOp,zB,aUn,reduceCtorEq,zFr,place,zTu,zRe]
 refine zRr (fun j=>S.length-j) (fun j fr G'=>j≤S.length∧fr 0=.slice p S.length c∧fr 8=.slice p S.length c∧fr 9=.int .i64 (S.length:Int)∧fr 10=.int .i64 (j:Int)∧fr 3=.int .i64 (sumP (gt S (j-1)).1 (S.take j))∧(∀i,i<j→0≤sumP (gt S i).1 (S.take (i+1)))∧Ext G1 G') 0 ⟨Nat.zero_le _,(by rfl),(by rfl),(by rfl),by rfl,by rfl,fun i hi=>by omega,Ext.refl.app⟩ ?_
 intro j fr G' ⟨hj,f0,f8,f9,f10,f3,hall,hE⟩ hN
 rw [zRc l46_1.eq_1]
 refine zRp ?_
 by_cases hlt:j<S.length
 case neg=>
  obtain rfl:j=S.length:=by omega
  simp only [n46,r46,f0,f8,f9,f10,f3,hlt,SB,seval,zCa,aOp,zB,aUn,reduceCtorEq,zFr,place,zTu,zRe]
  exact hQ true _ ⟨fun _=>hrb.1 hall,fun _=>rfl⟩ (hkx _ hE.app)
 have sG:Sl G' enc3 3 p S:=hE.sl (hO1.sl zds)
 have lS:=fun Z=>(sG.app Z).loadCells zds hlt
 have xS:=ix_N sG hlt rfl
 have hst:=sumP_step hpw' hlt
 have hgl:G1.length≤G'.length:=by obtain ⟨Y,rfl⟩:=hE;simp
 have hlG':lim≤G'.length:=by omega
 have w1:IntKind.i64.wrap ((j:Int)+1)=((j+1:Nat):Int):=zWn (by omega)
 have hbd:=sumP_abs (p:=(gt S j).1) (b:=100000000000) (l:=S.take (j+1)) (fun x hx=>hSb x (List.mem_of_mem_take hx)) (by omega)
 rw [List.length_take] at hbd
 obtain ⟨sj,hsj⟩:∃sj,sj=sumP (gt S j).1 (S.take (j+1)):=⟨_,rfl⟩
 rw [←hsj] at hst hbd
 have hno:sj<0→¬∀p t,0≤balC p t ch:=fun h hh=>by
  have:=hrb.2 hh j hlt
  rw [←hsj] at this;omega
 by_cases hc:0<j∧(gt S (j-1)).1≠(gt S j).1
 ·rw [if_pos hc,Int.zero_add] at hst
  have wj:IntKind.i64.wrap ((j:Int)-1)=((j-1:Nat):Int):=by rw [zWi (by omega) (by omega)];omega
  have l1:∀Z,AM.loadCell (G'++Z) ((elt p 3 (j-1)).add 0)=some (.int .i64 (gt S (j-1)).1):=fun Z=>(sG.app Z).loadCell zds (i:=j-1) (by omega) (j:=0) (by decide)
  have x1:=ix_N (i:=j-1) sG (by omega) rfl
  have wz:IntKind.i64.wrap (0+(gt S j).2.2)=sj:=by rw [Int.zero_add,hst];exact zWi (by omega) (by omega)
  have hg0:0<(j:Int):=by omega
  by_cases hneg:sj<0
  ·simp only [n46,r46,f0,f8,f9,f10,f3,hlt,lS,xS,w1,enc3,zSa,hlG',wj,l1,x1,eq_true hg0,eq_false hc.2,wz,eq_true hneg,SB,seval,zCa,aOp,zB,aUn,reduceCtorEq,zFr,place,zTu,zRe]
   exact hQ false _ ⟨fun h=>(by cases h),fun h=>absurd h (hno hneg)⟩ (hkx _ hE.app)
  ·simp only [n46,r46,f0,f8,f9,f10,f3,hlt,lS,xS,w1,enc3,zSa,hlG',wj,l1,x1,eq_true hg0,eq_false hc.2,wz,eq_false hneg,SB,seval,zCa,aOp,zB,aUn,reduceCtorEq,zFr,place,zTu,zRe]
   exact hN (j+1) _ _ ⟨by omega,by exact f0,by exact f8,by exact f9,(by rfl),by rw [show j+1-1=j by omega,←hsj];exact (by rfl),fun i hi=>by
    rcases (by omega:i<j∨i=j) with h | rfl
    ·exact hall i h
    ·rw [←hsj];omega,hE.app⟩ (by omega)
 ·rw [if_neg hc] at hst
  have wz:IntKind.i64.wrap (sumP (gt S (j-1)).1 (S.take j)+(gt S j).2.2)=sj:=by rw [←hst];exact zWi (by omega) (by omega)
  by_cases h0:j=0
  ·have hg0:¬0<(j:Int):=by omega
   by_cases hneg:sj<0
   ·simp only [n46,r46,f0,f8,f9,f10,f3,hlt,lS,xS,w1,enc3,zSa,hlG',eq_false hg0,wz,eq_true hneg,SB,seval,zCa,aOp,zB,aUn,reduceCtorEq,zFr,place,zTu,zRe]
    exact hQ false _ ⟨fun h=>(by cases h),fun h=>absurd h (hno hneg)⟩ (hkx _ hE.app)
   ·simp only [n46,r46,f0,f8,f9,f10,f3,hlt,lS,xS,w1,enc3,zSa,hlG',eq_false hg0,wz,eq_false hneg,SB,seval,zCa,aOp,zB,aUn,reduceCtorEq,zFr,place,zTu,zRe]
    exact hN (j+1) _ _ ⟨by omega,by exact f0,by exact f8,by exact f9,(by rfl),by rw [show j+1-1=j by omega,←hsj];exact (by rfl),fun i hi=>by
     obtain rfl:i=j:=by omega
     rw [←hsj];omega,hE.app⟩ (by omega)
  ·have hg0:0<(j:Int):=by omega
   have hce:(gt S (j-1)).1=(gt S j).1:=Classical.byContradiction fun h=>hc ⟨by omega,h⟩
   have wj:IntKind.i64.wrap ((j:Int)-1)=((j-1:Nat):Int):=by rw [zWi (by omega) (by omega)];omega
   have l1:∀Z,AM.loadCell (G'++Z) ((elt p 3 (j-1)).add 0)=some (.int .i64 (gt S (j-1)).1):=fun Z=>(sG.app Z).loadCell zds (i:=j-1) (by omega) (j:=0) (by decide)
   have x1:=ix_N (i:=j-1) sG (by omega) rfl
   by_cases hneg:sj<0
   ·simp only [n46,r46,f0,f8,f9,f10,f3,hlt,lS,xS,w1,enc3,zSa,hlG',wj,l1,x1,eq_true hg0,eq_true hce,wz,eq_true hneg,SB,seval,zCa,aOp,zB,aUn,reduceCtorEq,zFr,place,zTu,zRe]
    exact hQ false _ ⟨fun h=>(by cases h),fun h=>absurd h (hno hneg)⟩ (hkx _ hE.app)
   ·simp only [n46,r46,f0,f8,f9,f10,f3,hlt,lS,xS,w1,enc3,zSa,hlG',wj,l1,x1,eq_true hg0,eq_true hce,wz,eq_false hneg,SB,seval,zCa,aOp,zB,aUn,reduceCtorEq,zFr,place,zTu,zRe]
    exact hN (j+1) _ _ ⟨by omega,by exact f0,by exact f8,by exact f9,(by rfl),by rw [show j+1-1=j by omega,←hsj];exact (by rfl),fun i hi=>by
     rcases (by omega:i<j∨i=j) with h | rfl
     ·exact hall i h
     ·rw [←hsj];omega,hE.app⟩ (by omega)
end Go.Proofs.YtohnaffmcjbpoaaGreat.Fn

namespace Go.Flow
open Go.AM Go.Net
def keyD (c:Leg×Int):Int×Int×Int:=(c.1.id,c.2,c.2+c.1.mins)
def legM (C:List (Leg×Int)) (k:Int×Int×Int):Option Leg:=(C.find? fun c=>decide (keyD c=k)).map (·.1)
theorem legM_some {C:List (Leg×Int)} {k:Int×Int×Int} {l:Leg} (h:legM C k=some l):∃c∈C,keyD c=k∧c.1=l:=by
 unfold legM at h
 simp only [Option.map_eq_some_iff] at h
 obtain ⟨c,h1,h2⟩:=h
 exact ⟨c,List.mem_of_find?_eq_some h1,by simpa using List.find?_some h1,h2⟩
theorem legM_none {C:List (Leg×Int)} {k:Int×Int×Int} (h:legM C k=none):∀c∈C,keyD c≠k:=fun c hc e=>by
 unfold legM at h
 rw [Option.map_eq_none_iff,List.find?_eq_none] at h
 exact h c hc (by simpa using e)
theorem legM_snoc {C:List (Leg×Int)} {x:Leg×Int} {k:Int×Int×Int} (hu:∀c∈C,keyD c=keyD x→c.1=x.1):legM (C++[x]) k=if k=keyD x then some x.1 else legM C k:=by
 have e:legM (C++[x]) k=match legM C k with | some l=>some l | none=>if keyD x=k then some x.1 else none:=by
  unfold legM
  rw [List.find?_append]
  cases hc:C.find? fun c=>decide (keyD c=k) with
  | some c=>rfl
  | none=>
    simp only [Option.none_or,List.find?_cons,List.find?_nil,Option.map_none]
    by_cases h:keyD x=k
    ·simp [h]
    ·simp [h]
 rw [e]
 by_cases h:k=keyD x
 ·subst h
  rw [if_pos rfl]
  cases hl:legM C (keyD x) with
  | none=>simp
  | some l=>
    obtain ⟨c,h1,h2,h3⟩:=legM_some hl
    simp only
    rw [←h3,hu c h1 h2];simp
 ·rw [if_neg h]
  cases hl:legM C k with
  | none=>simp only;rw [if_neg fun q=>h q.symm]
  | some l=>rfl
end Go.Flow
namespace Go.Proofs.YtohnaffmcjbpoaaGreat.Fn
open Go.AM Go.AM.Sym Go.Net Go.Flow
def kD (k:Int×Int×Int):Value:=.agg #[.int .i64 k.1,.int .i64 k.2.1,.int .i64 k.2.2,.int .i64 0]
def vL (l:Leg):Value:=.agg (encL l).toArray
theorem kD_eq:KeyEq kD:=fun a b=>by
 obtain ⟨a1,a2,a3⟩:=a
 obtain ⟨b1,b2,b3⟩:=b
 simp only [kD,keyEq,intsEq,if_true,Option.map_some,Bool.and_true,Prod.mk.injEq,Bool.decide_and]
 simp only [beq_self_eq_true,Bool.and_true]
 rfl
theorem kD_ok {k:Int×Int×Int}:zcv (.ints [.i64,.i64,.i64,.i64]) (kD k)=true:=by simp [kD,zcv,zbm]
theorem keyD_uniq {P:List Int} {L:List Leg} {to dl:Int} (h:za6 P L=0):∀c∈zCc L to dl,∀d∈zCc L to dl,keyD c=keyD d→c.1=d.1:=fun c hc d hd e=>by
 unfold keyD at e
 exact leg_uniq h (zaf hc).1 (zaf hd).1 (Prod.mk.inj e).1
theorem legs_ok [OB] {lim M B12 Bd2 Bn2 Bt2 np cpn cl:Nat} {Kk:List Nat} {G:zH} {fr:Nat→Value} {pp2 pl:Option Addr} {P:List Int} {to dl:Int} {L:List Leg} {K:List zAi} {Q:Value→zH→Prop}
  (hv:za6 P L=0) (hM:zG G M=.map []) (h12:zG G B12=.cells false [.map (some M)]) (hlM:lim≤M) (f12:fr 12=.pointer (some ⟨B12,0,none⟩))
  (f33:fr 33=.func (.func 74) #[] #[.pointer (some ⟨Bd2,0,none⟩),.pointer (some ⟨Bn2,0,none⟩),.pointer (some ⟨Bt2,0,none⟩)])
  (hBd:zG G Bd2=.cells false [.int .i64 dl]) (hBn:zG G Bn2=.cells false (netV pp2 np cpn pl L.length cl)) (hBt:zG G Bt2=.cells false [.int .i64 to]) (hs:Sl G encL 8 pl L) (hK:Bd2∈Kk∧Bn2∈Kk∧Bt2∈Kk∧∀a,pl=some a→L≠[]→a.block∈Kk) (hKl:∀b∈Kk,b<G.length∧b≠M) (hF:∀l∈L,Fine l) (hLl:L.length<2 ^ 40) (hd0:0≤dl) (hd1:dl≤za1)
  (hR:∀G' es,(∀k,getK k es=legM (zCc L to dl) k)→zG G' M=.map (encM kD vL es)→(∀b,b<G.length→b≠M→zG G' b=zG G b)→zG G' G.length=.dfr→G.length+2≤G'.length→Ret E a22 lim (K++[.mark G.length]) fr G' Q) :
  Ret E a22 lim (.code (.rangeF (t 33) [34,35] ga22_1 gb22_1)::K) fr G Q:=by
 have hMl:=zda hM
 have hlG:lim≤G.length:=by omega
 have h12l:=zHa h12
 have h12M:B12≠M:=fun e=>by rw [e,hM] at h12;cases h12
 have mt:za1=1051898399:=rfl
 have hcal:zCa (ev fr (t 33)) [.func (.yield (G.length+1)) #[] #[]] = some (.inl 74,[.func (.yield (G.length+1)) #[] #[],.pointer (some ⟨Bd2,0,none⟩),.pointer (some ⟨Bn2,0,none⟩),.pointer (some ⟨Bt2,0,none⟩)]):=by rw [show ev fr (t 33)=_ from f33];rfl
 rw [Ret_rangeF0 hcal]
 have old0:∀b∈Kk,zG (G++[Blk.dfr,.loop ⟨0,none,fr,157,[34,35],ga22_1,gb22_1⟩]) b=zG G b:=fun b hb=>zHo (hKl b hb).1
 refine counted_rule (lim:=lim) (Y:=G.length+1) (Bd:=Bd2) (Bn:=Bn2) (Bt:=Bt2) (np:=np) (pp:=pp2) (pl:=pl) (cp:=cpn) (cl:=cl) (L:=L) (to:=to) (dl:=dl)
  (fun rest Xr G'=>∃done es,done++rest=zCc L to dl∧(∀k,getK k es=legM done k)∧zG G' M=.map (encM kD vL es)∧zG G' G.length=.dfr∧zG G' (G.length+1)=.loop ⟨0,none,fr,157,[34,35],ga22_1,gb22_1⟩∧(∀b,b<G.length→b≠M→zG G' b=zG G b)∧(∀b∈Xr,b<G'.length∧b≠M∧b≠G.length+1)∧G.length+2≤G'.length) Kk ?_ ?_ ((old0 _ hK.1).trans hBd) ((old0 _ hK.2.1).trans hBn) ((old0 _ hK.2.2.1).trans hBt) (hs.app _) hK ?_ hF hLl hd0 hd1 (by simp;omega) ?_ ?_
 ·rintro rest Xr Xr' H H' ⟨done,es,e1,e2,e3,e4,e5,e6,e7,e8⟩ hC hXr
  have hlen:=hC.len
  refine ⟨done,es,e1,e2,hC.get e3 (zda e3) (by simp),hC.get e4 (by omega) (by simp),hC.get e5 (by omega) (by simp),fun b hb hbM=>by rw [hC.other b (by omega) (by simp)];exact e6 b hb hbM,fun b hb=>?_,by omega⟩
  rcases hXr b hb with h1 | ⟨h1,h2⟩
  ·have:=e7 b h1
   exact ⟨by omega,this.2⟩
  ·exact ⟨h2,by omega,by omega⟩
 ·rintro x rest Xr G' hlG' hx hKr ⟨done,es,e1,e2,e3,e4,e5,e6,e7,e8⟩
  obtain ⟨hm1,_,d,_,hm4,hm5,hm6⟩:=zaf hx
  rw [CallY_run (x:=⟨0,none,fr,157,[34,35],ga22_1,gb22_1⟩) e5 (by omega) rfl (by rfl)]
  rw [show zb2 fr [34,35] [.agg (encL x.1).toArray,.agg #[.int .i64 x.2,.int .i64 (x.2+x.1.mins)]] = upd (upd fr 34 (.agg (encL x.1).toArray)) 35 (.agg #[.int .i64 x.2,.int .i64 (x.2+x.1.mins)]) from rfl]
  rw [zRc ga22_1.eq_1]
  refine zRp ?_
  obtain ⟨G1,e9,h9,m9⟩:=za4 (G:=G') (R:=G.length+1) (by omega) (.loop ⟨1,none,fr,157,[34,35],ga22_1,gb22_1⟩)
  have gY:=fun X=>(Ext.refl.app (X:=X)).get' e5 (by omega)
  have hlG2:lim≤G'.length:=by omega
  simp only [f12,zLl,zL0,zL1,zL2,zL3,zL4,zL5,zL6,zL7,zTa,zSa,hlG2,gY,e9,show lim≤G.length+1 by omega,SB,seval,zCa,aOp,zB,aUn,reduceCtorEq,zFr,place,zTu,zRe]
  rw [zRc gb22_1.eq_1]
  have hl9:=m9.len
  have k12:∀Z,zG (G1++Z) B12=.cells false [.map (some M)]:=fun Z=>by rw [zHo (by omega),m9.other _ (by omega),e6 B12 h12l h12M];exact h12
  have kM:∀Z,zG (G1++Z) M=.map (encM kD vL es):=fun Z=>by rw [zHo (by omega),m9.other _ (by omega)];exact e3
  have c5:∀X:zH,zG (G1++X) G'.length=X.getD 0 .dead:=(len_rules m9.len).2.2.1
  have c6:∀(X:zH) (j:Nat),zG (G1++X) (G'.length+j)=X.getD j .dead:=(len_rules m9.len).2.1
  have hfk:findKey (.agg #[.int .i64 x.1.id,.int .i64 x.2,.int .i64 (x.2+x.1.mins),.int .i64 0]) (encM kD vL es) 0=some ((fk (keyD x) es 0).map fun y=>(y.1,vL y.2)):=zbl (vv:=vL) kD_eq (keyD x) es 0
  have hko:zcv (.ints [.i64,.i64,.i64,.i64]) (.agg #[.int .i64 x.1.id,.int .i64 x.2,.int .i64 (x.2+x.1.mins),.int .i64 0])=true:=kD_ok (k:=keyD x)
  have hget':∀k,getK k (putK (keyD x) x.1 es)=legM (done++[x]) k:=fun k=>by
   rw [getK_put,legM_snoc fun c hc e=>keyD_uniq hv c (by rw [←e1];exact List.mem_append_left _ hc) x hx e,e2]
  have fin:∀(G2:zH),Mut G1 G2 M→zG G2 M=.map (encM kD vL (putK (keyD x) x.1 es))→∃G4,(∀Z:zH,(G2++Z).set (G.length+1) (.loop ⟨0,none,fr,157,[34,35],ga22_1,gb22_1⟩)=G4++Z)∧(∀Z,zG (G2++Z) (G.length+1)=.loop ⟨1,none,fr,157,[34,35],ga22_1,gb22_1⟩)∧∀Z,(∃done es,done++rest=zCc L to dl∧(∀k,getK k es=legM done k)∧zG (G4++Z) M=.map (encM kD vL es)∧zG (G4++Z) G.length=.dfr∧zG (G4++Z) (G.length+1)=.loop ⟨0,none,fr,157,[34,35],ga22_1,gb22_1⟩∧(∀b,b<G.length→b≠M→zG (G4++Z) b=zG G b)∧(∀b∈Xr,b<(G4++Z).length∧b≠M∧b≠G.length+1)∧G.length+2≤(G4++Z).length)∧G'.length≤(G4++Z).length∧∀j∈Xr,zG (G4++Z) j=zG G' j:=fun G2 m2 h2=>by
   have hl2:=m2.len
   have y2:zG G2 (G.length+1)=.loop ⟨1,none,fr,157,[34,35],ga22_1,gb22_1⟩:=(m2.other _ (by omega)).trans h9
   obtain ⟨G4,e11,h11,m11⟩:=za4 (G:=G2) (R:=G.length+1) (by omega) (.loop ⟨0,none,fr,157,[34,35],ga22_1,gb22_1⟩)
   have hl4:=m11.len
   have kk:∀b,b<G'.length→b≠M→b≠G.length+1→∀Z,zG (G4++Z) b=zG G' b:=fun b hb q1 q2 Z=>by
    rw [zHo (by omega),m11.other b q2,m2.other b q1,m9.other b q2]
   refine ⟨G4,e11,fun Z=>(Ext.refl.app (X:=Z)).get' y2 (by omega),fun Z=>⟨⟨done++[x],putK (keyD x) x.1 es,by rw [List.append_assoc];exact e1,hget', ?_,(kk _ (by omega) (by omega) (by omega) Z).trans e4, ?_,fun b hb hbM=>(kk b (by omega) hbM (by omega) Z).trans (e6 b hb hbM),fun b hb=>?_,by simp;omega⟩,by simp;omega,fun j hj=>?_⟩⟩
   ·rw [zHo (by omega),m11.other M (by omega)];exact h2
   ·rw [zHo (by omega)];exact h11
   ·have:=e7 b hb
    exact ⟨by simp;omega,this.2⟩
   ·have:=e7 j hj
    exact kk j this.1 this.2.1 this.2.2 Z
  cases hc:fk (keyD x) es 0 with
  | none=>
    rw [hc] at hfk
    simp only [Option.map_none] at hfk
    obtain ⟨G2,e22,h10,m10⟩:=za4 (G:=G1) (R:=M) (by omega) (.map (encM kD vL es++[(.agg #[.int .i64 x.1.id,.int .i64 x.2,.int .i64 (x.2+x.1.mins),.int .i64 0],.agg (encL x.1).toArray)]))
    obtain ⟨G4,e11,y2,hfin⟩:=fin G2 m10 (by
     rw [h10,←fk_none (v':=x.1) hc]
     unfold encM
     rw [List.map_append];rfl)
    simp only [f12,zLl,zL0,zL1,zL2,zL3,zL4,zL5,zL6,zL7,zTa,zSa,k12,kM,c5,c6,hfk,hko,hlM,e22,y2,e11,show lim≤G.length+1 by omega,SB,seval,zCa,aOp,zB,aUn,reduceCtorEq,zFr,place,zTu,zRe]
    obtain ⟨⟨d1,es1,p1,p2,p3,p4,p5,p6,p7,p8⟩,p9,p10⟩:=hfin [Blk.cells false (encL x.1),Blk.cells false [.int .i64 x.2,.int .i64 (x.2+x.1.mins)]]
    refine ⟨⟨d1,es1,p1,p2,p3,p4,p5,p6,fun b hb=>?_, ?_⟩, ?_,p10⟩
    ·have:=p7 b hb
     simp only [List.length_append,List.length_cons,List.length_nil] at this⊢
     exact ⟨by omega,this.2⟩
    ·simp only [List.length_append,List.length_cons,List.length_nil] at p8⊢;omega
    ·simp only [List.length_append,List.length_cons,List.length_nil] at p9⊢;omega
  | some yy=>
    obtain ⟨j,v⟩:=yy
    rw [hc] at hfk
    simp only [Option.map_some] at hfk
    obtain ⟨G2,e22,h10,m10⟩:=za4 (G:=G1) (R:=M) (by omega) (.map ((encM kD vL es).set j (.agg #[.int .i64 x.1.id,.int .i64 x.2,.int .i64 (x.2+x.1.mins),.int .i64 0],.agg (encL x.1).toArray)))
    obtain ⟨G4,e11,y2,hfin⟩:=fin G2 m10 (by
     have:=(fk_some (v':=x.1) hc).2.2
     rw [Nat.sub_zero] at this
     rw [h10,←this]
     unfold encM
     rw [List.map_set];rfl)
    simp only [f12,zLl,zL0,zL1,zL2,zL3,zL4,zL5,zL6,zL7,zTa,zSa,k12,kM,c5,c6,hfk,hko,hlM,e22,y2,e11,show lim≤G.length+1 by omega,SB,seval,zCa,aOp,zB,aUn,reduceCtorEq,zFr,place,zTu,zRe]
    obtain ⟨⟨d1,es1,p1,p2,p3,p4,p5,p6,p7,p8⟩,p9,p10⟩:=hfin [Blk.cells false (encL x.1),Blk.cells false [.int .i64 x.2,.int .i64 (x.2+x.1.mins)]]
    refine ⟨⟨d1,es1,p1,p2,p3,p4,p5,p6,fun b hb=>?_, ?_⟩, ?_,p10⟩
    ·have:=p7 b hb
     simp only [List.length_append,List.length_cons,List.length_nil] at this⊢
     exact ⟨by omega,this.2⟩
    ·simp only [List.length_append,List.length_cons,List.length_nil] at p8⊢;omega
    ·simp only [List.length_append,List.length_cons,List.length_nil] at p9⊢;omega
 ·intro j hj;have:=(hKl j hj).1;simp;omega
 ·refine ⟨[],[],rfl,fun k=>rfl,by rw [zHo hMl];exact hM,zHn,zHw,fun b hb _=>zHo hb,fun b hb=>?_,by simp⟩
  have:=hKl b hb
  exact ⟨by simp;omega,this.2,by omega⟩
 ·rintro G' ⟨done,es,e1,e2,e3,e4,e5,e6,e7,e8⟩ hkX hlen
  rw [List.append_nil] at e1
  subst e1
  rw [endK_congr e5,endK_0]
  show Ret E a22 lim (K++[.mark G.length]) fr _ _
  have hCm:Mut G' (G'.set (G.length+1) .dead) (G.length+1):=⟨by simp,fun j hj=>zHs hj⟩
  exact hR _ es e2 ((hCm.other M (by omega)).trans e3) (fun b hb hbM=>by rw [hCm.other b (by omega)];exact e6 b hb hbM) ((hCm.other _ (by omega)).trans e4) (by rw [hCm.len];omega)
end Go.Proofs.YtohnaffmcjbpoaaGreat.Fn

namespace Go.Flow
open Go.AM Go.Net
def srcCh (s:List Src):List Cg:=s.map fun x=>(x.pl,x.rd,x.gr)
def arrS (to dl:Int):List Src→Int
 | []=>0
 | x::s=>(if x.pl=to∧x.rd≤dl then x.gr else 0)+arrS to dl s
def keyL (x:Ld):Int×Int×Int:=(x.leg,x.dep,x.arr)
def legD (C:List (Leg×Int)) (x:Ld):Leg:=(legM C (keyL x)).getD default
def ldCh (C:List (Leg×Int)) (x:Ld):List Cg:=[((legD C x).frm,x.dep-(legD C x).cut,-x.gr),((legD C x).dst,x.arr,x.gr)]
def arrL (C:List (Leg×Int)) (to:Int):List Ld→Int
 | []=>0
 | x::l=>(if (legD C x).dst=to then x.gr else 0)+arrL C to l
def okX (C:List (Leg×Int)) (ld:List Ld) (i:Nat):Prop:=(∃lg,legM C (keyL (gt ld i))=some lg∧1≤(gt ld i).gr∧(gt ld i).gr≤lg.grams)∧(0<i→ldLt (gt ld (i-1)) (gt ld i))
def allCh (C:List (Leg×Int)) (s:List Src) (ld:List Ld):List Cg:=srcCh s++ld.flatMap (ldCh C)
def goodL (C:List (Leg×Int)) (s:List Src) (ld:List Ld):Prop:=(∀i,i<ld.length→okX C ld i)∧∀p t,0≤balC p t (allCh C s ld)
theorem arrS_app {to dl:Int}:∀{a b:List Src},arrS to dl (a++b)=arrS to dl a+arrS to dl b
 | [],b=>by simp [arrS]
 | x::a,b=>by rw [List.cons_append,arrS,arrS,arrS_app];omega
theorem arrL_app {C:List (Leg×Int)} {to:Int}:∀{a b:List Ld},arrL C to (a++b)=arrL C to a+arrL C to b
 | [],b=>by simp [arrL]
 | x::a,b=>by rw [List.cons_append,arrL,arrL,arrL_app];omega
theorem arrS_le {to dl:Int}:∀{s:List Src},(∀x∈s,0≤x.gr∧x.gr≤1000000000)→0≤arrS to dl s∧arrS to dl s≤1000000000*s.length
 | [],_=>by simp [arrS]
 | x::s,h=>by
   have ih:=arrS_le (to:=to) (dl:=dl) (s:=s) fun y hy=>h y (List.mem_cons_of_mem _ hy)
   have:=h x List.mem_cons_self
   rw [arrS,List.length_cons]
   split<;>omega
theorem arrL_le {C:List (Leg×Int)} {to:Int}:∀{l:List Ld},(∀x∈l,0≤x.gr∧x.gr≤1000000000)→0≤arrL C to l∧arrL C to l≤1000000000*l.length
 | [],_=>by simp [arrL]
 | x::s,h=>by
   have ih:=arrL_le (C:=C) (to:=to) (l:=s) fun y hy=>h y (List.mem_cons_of_mem _ hy)
   have:=h x List.mem_cons_self
   rw [arrL,List.length_cons]
   split<;>omega
end Go.Flow
namespace Go.Proofs.YtohnaffmcjbpoaaGreat.Fn
open Go.AM Go.AM.Sym Go.Net Go.Flow
structure CF (fr:Nat→Value) (p4:Option Addr) (n4 c4:Nat) (to dl:Int) (B12:Nat):Prop where
 f2:fr 2=.int .i64 to
 f3:fr 3=.int .i64 dl
 f4:fr 4=.slice p4 n4 c4
 f12:fr 12=.pointer (some ⟨B12,0,none⟩)
theorem chkS_ok [OB] {p4 ps:Option Addr} {n4 c4 cs B12:Nat} {to dl:Int} {s:List Flow.Src} {lim:Nat} {G:zH} {fr:Nat→Value} {K:List zAi} {Q:Value→zH→Prop}
  (hf:CF fr p4 n4 c4 to dl B12) (hs:Sl G encS 3 ps s) (hn:s.length≤60) (hg:∀x∈s,0≤x.gr∧x.gr≤1000000000) (hlG:lim≤G.length)
  (f45:fr 45=.slice ps s.length cs) (f46:fr 46=.int .i64 (s.length:Int)) (f47:fr 47=.int .i64 0) (f15:fr 15=.int .i64 0) (f16:fr 16=.slice none 0 0)
  (hK:∀fr' G' p c,CF fr' p4 n4 c4 to dl B12→Own G.length G' enc3 3 p c (srcCh s)→Chg [] G G'→fr' 15=.int .i64 (arrS to dl s)→fr' 16=.slice p s.length c→Ret E a22 lim K fr' G' Q) :
  Ret E a22 lim (.code (.loop l22_2)::.inBlock 2::K) fr G Q:=by
 have hsl:∀j,(srcCh (s.take j)).length=min j s.length:=fun j=>by unfold srcCh;simp
 refine zRr (fun z:Nat×Option Addr×Nat=>s.length-z.1) (fun z fr2 G'=>z.1≤s.length∧CF fr2 p4 n4 c4 to dl B12∧fr2 45=.slice ps s.length cs∧fr2 46=.int .i64 (s.length:Int)∧fr2 47=.int .i64 (z.1:Int)∧fr2 15=.int .i64 (arrS to dl (s.take z.1))∧fr2 16=.slice z.2.1 z.1 z.2.2∧Own G.length G' enc3 3 z.2.1 z.2.2 (srcCh (s.take z.1))∧Chg [] G G') (0,none,0)
  ⟨Nat.zero_le _,hf,f45,f46,f47,f15,f16,.nil,Chg.refl⟩ ?_
 rintro ⟨j,p,c⟩ fr2 G' ⟨hj,⟨q2,q3,q4,q12⟩,q45,q46,q47,q15,q16,hO,hC⟩ hN
 simp only at hj q47 q15 q16 hO
 rw [zRc l22_2.eq_1]
 refine zRp ?_
 by_cases hlt:j<s.length
 case neg=>
  obtain rfl:j=s.length:=by omega
  rw [List.take_length] at q15 hO
  simp only [n22,r22,q2,q3,q4,q12,q45,q46,q47,q15,q16,hlt,SB,seval,zCa,aOp,zB,aUn,reduceCtorEq,zFr,place,zTu,zRe]
  exact hK _ _ p c ⟨(by exact q2),by exact q3,by exact q4,by exact q12⟩ (hO.app _) hC.app (by exact q15) (by exact q16)
 have sG:=hC.sl hs (fun _ _ _=>by simp)
 have lS:=fun Z=>(sG.app Z).loadCells zEl hlt
 have xS:=ix_N sG hlt rfl
 have hlG':=hC.len
 have hlj:=hsl j
 rw [Nat.min_eq_left hj] at hlj
 have eC:srcCh (s.take (j+1))=srcCh (s.take j)++[((gt s j).pl,(gt s j).rd,(gt s j).gr)]:=by unfold srcCh;rw [zb1 hlt,List.map_append];rfl
 have eA:arrS to dl (s.take (j+1))=arrS to dl (s.take j)+(if (gt s j).pl=to∧(gt s j).rd≤dl then (gt s j).gr else 0):=by
  rw [zb1 hlt,arrS_app]
  show _+(_+0)=_
  omega
 have hb:=arrS_le (to:=to) (dl:=dl) (s:=s.take j) fun x hx=>hg x (List.mem_of_mem_take hx)
 rw [List.length_take] at hb
 have hgj:=hg _ (zag hlt)
 obtain ⟨G2,e2,O2,C2,K2,hl2,hkx⟩:=hO.step (lim':=lim) (bytes:=24) hlG zds (by decide) ((gt s j).pl,(gt s j).rd,(gt s j).gr) (by rw [hlj];unfold za3;omega) (by rw [hlj];omega) hlG' [.cells false (encS (gt s j)),.cells false (enc3 ((gt s j).pl,(gt s j).rd,(gt s j).gr))] (G'.length+1) 1 (by rw [zHw];rfl)
 rw [hlj] at e2
 simp only [List.length_cons,List.length_nil,Nat.zero_add,Nat.reduceAdd] at e2 O2
 have e2':zAa lim none 3 24 false (.slice p j c) (.slice (some ⟨G'.length+1,0,none⟩) 1 1) (G'++[.cells false (encS (gt s j)),.cells false [.int .i64 (gt s j).pl,.int .i64 (gt s j).rd,.int .i64 (gt s j).gr]])=some (.slice (some ⟨G'.length+2,0,none⟩) (j+1) (loose 3),G2++[]):=e2
 have k18:∀Z,zG (G2++Z) G'.length=.cells false (encS (gt s j)):=fun Z=>by
  have:=hkx 0 (by simp)
  rw [Nat.add_zero,List.append_nil] at this
  exact (Ext.refl.app).cells (this.trans rfl)
 have w1:IntKind.i64.wrap ((j:Int)+1)=((j+1:Nat):Int):=zWn (by omega)
 have wa:IntKind.i64.wrap (arrS to dl (s.take j)+(gt s j).gr)=arrS to dl (s.take j)+(gt s j).gr:=zWi (by omega) (by omega)
 have hlL:lim≤G'.length:=by omega
 by_cases g1:(gt s j).pl=to
 ·by_cases g2:(gt s j).rd≤dl
  ·rw [if_pos ⟨g1,g2⟩] at eA
   simp only [n22,r22,q2,q3,q4,q12,q45,q46,q47,q15,q16,hlt,lS,xS,zEl,zdr,zdq,zdp,zSa,e2',k18,w1,wa,hlL,zTa,eq_true g1,eq_true g2,SB,seval,zCa,aOp,zB,aUn,reduceCtorEq,zFr,place,zTu,zRe]
   exact hN (j+1,some ⟨G'.length+2,0,none⟩,loose 3) _ _ ⟨by show j+1≤_;omega,⟨(by exact q2),by exact q3,by exact q4,by exact q12⟩,by exact q45,by exact q46,(by rfl),by rw [eA];exact (by rfl),(by rfl),by rw [eC];exact O2,C2 [] G (Nat.le_refl _) hC⟩ (by show s.length-(j+1)<s.length-j;omega)
  ·rw [if_neg fun h=>g2 h.2,Int.add_zero] at eA
   simp only [n22,r22,q2,q3,q4,q12,q45,q46,q47,q15,q16,hlt,lS,xS,zEl,zdr,zdq,zdp,zSa,e2',k18,w1,wa,hlL,zTa,eq_true g1,eq_false g2,SB,seval,zCa,aOp,zB,aUn,reduceCtorEq,zFr,place,zTu,zRe]
   exact hN (j+1,some ⟨G'.length+2,0,none⟩,loose 3) _ _ ⟨by show j+1≤_;omega,⟨(by exact q2),by exact q3,by exact q4,by exact q12⟩,by exact q45,by exact q46,(by rfl),by rw [eA];exact (by exact q15),(by rfl),by rw [eC];exact O2,C2 [] G (Nat.le_refl _) hC⟩ (by show s.length-(j+1)<s.length-j;omega)
 ·rw [if_neg fun h=>g1 h.1,Int.add_zero] at eA
  simp only [n22,r22,q2,q3,q4,q12,q45,q46,q47,q15,q16,hlt,lS,xS,zEl,zdr,zdq,zdp,zSa,e2',k18,w1,wa,hlL,zTa,eq_false g1,SB,seval,zCa,aOp,zB,aUn,reduceCtorEq,zFr,place,zTu,zRe]
  exact hN (j+1,some ⟨G'.length+2,0,none⟩,loose 3) _ _ ⟨by show j+1≤_;omega,⟨(by exact q2),by exact q3,by exact q4,by exact q12⟩,by exact q45,by exact q46,(by rfl),by rw [eA];exact (by exact q15),(by rfl),by rw [eC];exact O2,C2 [] G (Nat.le_refl _) hC⟩ (by show s.length-(j+1)<s.length-j;omega)
theorem chkL_ok [OB] {p4:Option Addr} {c4 M B12 c0:Nat} {p0:Option Addr} {to dl:Int} {s:List Flow.Src} {ld:List Flow.Ld} {C:List (Leg×Int)} {es:List ((Int×Int×Int)×Leg)} {lim:Nat} {G Gs:zH} {fr:Nat→Value} {K:List zAi} {Q:Value→zH→Prop}
  (hf:CF fr p4 ld.length c4 to dl B12) (hs:Sl G encD 4 p4 ld) (hn:ld.length≤200) (hs60:s.length≤60) (hsg:∀x∈s,0≤x.gr∧x.gr≤1000000000) (hC:∀c∈C,Fine c.1∧0≤c.2∧c.2+c.1.mins≤za1) (hlG:lim≤G.length)
  (h12:zG G B12=.cells false [.map (some M)]) (hM:zG G M=.map (encM kD vL es)) (hes:∀k,getK k es=legM C k) (hGs:Chg [] G Gs) (hO:Own G.length Gs enc3 3 p0 c0 (srcCh s))
  (f76:fr 76=.slice p4 ld.length c4) (f77:fr 77=.int .i64 (ld.length:Int)) (f78:fr 78=.int .i64 0) (f15:fr 15=.int .i64 (arrS to dl s)) (f16:fr 16=.slice p0 s.length c0)
  (hbad:∀fr' G',fr' 10=.int .i64 0→fr' 11=.bool false→Chg [] G G'→(∃i,i<ld.length∧¬okX C ld i)→Ret E a22 lim (.code .retM::K) fr' G' Q)
  (hK:∀fr' G' p c,CF fr' p4 ld.length c4 to dl B12→Own G.length G' enc3 3 p c (allCh C s ld)→Chg [] G G'→(∀i,i<ld.length→okX C ld i)→fr' 15=.int .i64 (arrS to dl s+arrL C to ld)→fr' 16=.slice p (allCh C s ld).length c→Ret E a22 lim K fr' G' Q) :
  Ret E a22 lim (.code (.loop l22_1)::.inBlock 4::K) fr Gs Q:=by
 have hb2:=fun fr' G' h1 h2 h3 h4=>cast (Ret_retM (E:=E) (af:=a22) (lim:=lim) (K:=K)) (hbad fr' G' h1 h2 h3 h4)
 have hl2:∀l:List Flow.Ld,(l.flatMap (ldCh C)).length=2*l.length:=fun l=>by
  induction l with
  | nil=>rfl
  | cons x l ih=>rw [List.flatMap_cons,List.length_append,ih,List.length_cons];show 2+_=_;omega
 have hlc:∀j,j≤ld.length→(allCh C s (ld.take j)).length=s.length+2*j:=fun j hj=>by
  unfold allCh srcCh
  rw [List.length_append,List.length_map,hl2,List.length_take];omega
 refine zRr (fun z:Nat×Option Addr×Nat=>ld.length-z.1) (fun z fr2 G'=>z.1≤ld.length∧CF fr2 p4 ld.length c4 to dl B12∧fr2 76=.slice p4 ld.length c4∧fr2 77=.int .i64 (ld.length:Int)∧fr2 78=.int .i64 (z.1:Int)∧fr2 15=.int .i64 (arrS to dl s+arrL C to (ld.take z.1))∧fr2 16=.slice z.2.1 (s.length+2*z.1) z.2.2∧Own G.length G' enc3 3 z.2.1 z.2.2 (allCh C s (ld.take z.1))∧Chg [] G G'∧∀i,i<z.1→okX C ld i) (0,p0,c0)
  ⟨Nat.zero_le _,hf,f76,f77,f78,by rw [show arrL C to (ld.take 0)=0 from rfl,Int.add_zero];exact f15,f16,by rw [show allCh C s (ld.take 0)=srcCh s from List.append_nil _];exact hO,hGs,fun i hi=>by omega⟩ ?_
 rintro ⟨j,p,c⟩ fr2 G' ⟨hj,⟨q2,q3,q4,q12⟩,q76,q77,q78,q15,q16,hO',hCh,hall⟩ hN
 simp only at hj q78 q15 q16 hO' hall
 rw [zRc l22_1.eq_1]
 refine zRp ?_
 by_cases hlt:j<ld.length
 case neg=>
  obtain rfl:j=ld.length:=by omega
  have hlj:=hlc ld.length (Nat.le_refl _)
  rw [List.take_length] at q15 hO' hlj
  simp only [n22,r22,q2,q3,q4,q12,q76,q77,q78,q15,q16,hlt,SB,seval,zCa,aOp,zB,aUn,reduceCtorEq,zFr,place,zTu,zRe]
  exact hK _ _ p c ⟨(by exact q2),by exact q3,by exact q4,by exact q12⟩ (hO'.app _) hCh.app hall (by exact q15) (by rw [hlj];exact (by exact q16))
 have hlj:=hlc j hj
 have sG:=hCh.sl hs (fun _ _ _=>by simp)
 have lD:=fun Z=>(sG.app Z).loadCells zDl hlt
 have xD:=ix_N sG hlt rfl
 have hGl:=hCh.len
 have hlL:lim≤G'.length:=by omega
 have hMl:=zda hM
 have k12:=fun Z=>(Ext.refl.app (X:=Z)).cells (hCh.cells h12 (by simp))
 have kM:∀Z,zG (G'++Z) M=.map (encM kD vL es):=fun Z=>by rw [zHo (by omega)];exact hCh.get hM hMl (by simp)
 have hfk:findKey (.agg #[.int .i64 (gt ld j).leg,.int .i64 (gt ld j).dep,.int .i64 (gt ld j).arr,.int .i64 0]) (encM kD vL es) 0=some ((fk (keyL (gt ld j)) es 0).map fun y=>(y.1,vL y.2)):=zbl (vv:=vL) kD_eq (keyL (gt ld j)) es 0
 have hko:zcv (.ints [.i64,.i64,.i64,.i64]) (.agg #[.int .i64 (gt ld j).leg,.int .i64 (gt ld j).dep,.int .i64 (gt ld j).arr,.int .i64 0])=true:=kD_ok (k:=keyL (gt ld j))
 have hgk:=fk_get (keyL (gt ld j)) es 0
 rw [hes] at hgk
 have w1:IntKind.i64.wrap ((j:Int)+1)=((j+1:Nat):Int):=zWn (by omega)
 cases hc:fk (keyL (gt ld j)) es 0 with
 | none=>
   rw [hc] at hfk hgk
   simp only [Option.map_none] at hfk hgk
   simp only [n22,r22,q2,q3,q4,q12,q76,q77,q78,q15,q16,hlt,lD,xD,k12,kM,hfk,hko,w1,hlL,zSa,zDl,encD_0,encD_1,encD_2,encD_3,zLl,zL0,zL1,zL2,zL3,zL4,zL5,zL6,zL7,zTa,SB,seval,zCa,aOp,zB,aUn,reduceCtorEq,zFr,place,zTu,zRe]
   exact hb2 _ _ (by rfl) (by rfl) hCh.app ⟨j,hlt,fun ⟨⟨lg,h1,_⟩,_⟩=>by rw [←hgk] at h1;cases h1⟩
 | some yy=>
   obtain ⟨jj,lg⟩:=yy
   rw [hc] at hfk hgk
   simp only [Option.map_some,vL] at hfk hgk
   have hlg:legD C (gt ld j)=lg:=by unfold legD;rw [←hgk];rfl
   obtain ⟨cc,hcc,hk1,hk2⟩:=legM_some hgk.symm
   obtain ⟨hFc,hc0,hc1⟩:=hC cc hcc
   rw [hk2] at hFc hc1
   unfold keyD keyL at hk1
   obtain ⟨hk3,hk4,hk5⟩:cc.1.id=(gt ld j).leg∧cc.2=(gt ld j).dep∧cc.2+cc.1.mins=(gt ld j).arr:=by
    have:=Prod.mk.inj hk1
    exact ⟨this.1,(Prod.mk.inj this.2).1,(Prod.mk.inj this.2).2⟩
   have hFc':=hFc
   unfold Fine at hFc'
   have mt:za1=1051898399:=rfl
   by_cases g1:(gt ld j).gr<1
   ·simp only [n22,r22,q2,q3,q4,q12,q76,q77,q78,q15,q16,hlt,lD,xD,k12,kM,hfk,hko,w1,hlL,zSa,zDl,encD_0,encD_1,encD_2,encD_3,zLl,zL0,zL1,zL2,zL3,zL4,zL5,zL6,zL7,zTa,eq_true g1,SB,seval,zCa,aOp,zB,aUn,reduceCtorEq,zFr,place,zTu,zRe]
    exact hb2 _ _ (by rfl) (by rfl) hCh.app ⟨j,hlt,fun ⟨⟨lg,h1,h2,_⟩,_⟩=>by omega⟩
   by_cases g2:lg.grams<(gt ld j).gr
   ·simp only [n22,r22,q2,q3,q4,q12,q76,q77,q78,q15,q16,hlt,lD,xD,k12,kM,hfk,hko,w1,hlL,zSa,zDl,encD_0,encD_1,encD_2,encD_3,zLl,zL0,zL1,zL2,zL3,zL4,zL5,zL6,zL7,zTa,eq_false g1,eq_true g2,SB,seval,zCa,aOp,zB,aUn,reduceCtorEq,zFr,place,zTu,zRe]
    exact hb2 _ _ (by rfl) (by rfl) hCh.app ⟨j,hlt,fun ⟨⟨lg',h1,h2,h3⟩,_⟩=>by rw [←hgk] at h1;cases h1;omega⟩
   have hwj:0<j→IntKind.i64.wrap ((j:Int)-1)=((j-1:Nat):Int):=fun h=>by rw [zWi (by omega) (by omega)];omega
   by_cases g3:0<j∧¬ldLt (gt ld (j-1)) (gt ld j)
   ·have g4:0<(j:Int):=by omega
    have g5:0≤cmpD (gt ld (j-1)) (gt ld j):=by
     have:=g3.2
     rw [←cmpD_neg] at this;omega
    have lD1:=fun Z=>(sG.app Z).loadCells zDl (i:=j-1) (by omega)
    have xD1:=ix_N (i:=j-1) sG (by omega) rfl
    simp only [n22,r22,q2,q3,q4,q12,q76,q77,q78,q15,q16,hlt,lD,xD,k12,kM,hfk,hko,w1,hlL,zSa,zDl,encD_0,encD_1,encD_2,encD_3,zLl,zL0,zL1,zL2,zL3,zL4,zL5,zL6,zL7,zTa,eq_false g1,eq_false g2,eq_true g4,hwj g3.1,lD1,xD1,compare_ok,eq_true g5,SB,seval,zCa,aOp,zB,aUn,reduceCtorEq,zFr,place,zTu,zRe]
    exact hb2 _ _ (by rfl) (by rfl) hCh.app ⟨j,hlt,fun ⟨_,h⟩=>g3.2 (h g3.1)⟩
   have hok:okX C ld j:=⟨⟨lg,hgk.symm,by omega,by omega⟩,fun h0=>Classical.byContradiction fun hh=>g3 ⟨h0,hh⟩⟩
   have eT:ld.take (j+1)=ld.take j++[gt ld j]:=zb1 hlt
   have eC:allCh C s (ld.take (j+1))=allCh C s (ld.take j)++[(lg.frm,(gt ld j).dep-lg.cut,-(gt ld j).gr),(lg.dst,(gt ld j).arr,(gt ld j).gr)]:=by
    unfold allCh
    rw [eT,List.flatMap_append,←List.append_assoc,List.flatMap_cons,List.flatMap_nil,List.append_nil]
    show _++ldCh C (gt ld j)=_
    unfold ldCh
    rw [hlg]
   have eA:arrS to dl s+arrL C to (ld.take (j+1))=arrS to dl s+arrL C to (ld.take j)+(if lg.dst=to then (gt ld j).gr else 0):=by
    rw [eT,arrL_app]
    show _+(_+((if (legD C (gt ld j)).dst=to then (gt ld j).gr else 0)+0))=_
    rw [hlg];omega
   have hgood:∀x∈ld.take j,0≤x.gr∧x.gr≤1000000000:=fun x hx=>by
    obtain ⟨i,hi,rfl⟩:=List.mem_iff_getElem.1 hx
    rw [List.length_take] at hi
    obtain ⟨⟨l2,h1,h2,h3⟩,_⟩:=hall i (by omega)
    obtain ⟨c2,hc2,_,hk⟩:=legM_some h1
    have:=(hC c2 hc2).1
    rw [hk] at this
    unfold Fine at this
    rw [List.getElem_take,←zGl (by omega)]
    omega
   have hbA:=arrL_le (C:=C) (to:=to) hgood
   rw [List.length_take] at hbA
   have hbS:=arrS_le (to:=to) (dl:=dl) hsg
   have wd:IntKind.i64.wrap ((gt ld j).dep-lg.cut)=(gt ld j).dep-lg.cut:=zWi (by omega) (by omega)
   have wn:IntKind.i64.wrap (0-(gt ld j).gr)=-(gt ld j).gr:=by rw [Int.zero_sub];exact zWi (by omega) (by omega)
   have wa:IntKind.i64.wrap (arrS to dl s+arrL C to (ld.take j)+(gt ld j).gr)=arrS to dl s+arrL C to (ld.take j)+(gt ld j).gr:=zWi (by omega) (by omega)
   obtain ⟨G2,p',c',e2,O2,C2,K2,hl2'⟩:=(hO'.app [.cells false (encD (gt ld j)),.cells false (encL lg)]).more (lim':=lim) (bytes:=24) hlG zds (by decide) [(lg.frm,(gt ld j).dep-lg.cut,-(gt ld j).gr),(lg.dst,(gt ld j).arr,(gt ld j).gr)] (by rw [hlj];simp;unfold za3;omega) (by rw [hlj];simp;omega) (by simp;omega) [.cells false [.int .i64 lg.frm,.int .i64 ((gt ld j).dep-lg.cut),.int .i64 (-(gt ld j).gr),.int .i64 lg.dst,.int .i64 (gt ld j).arr,.int .i64 (gt ld j).gr]] (x:=.slice (some ⟨G'.length+2,0,none⟩) 2 2) (str:=false)
    (zbk (m:=[(lg.frm,(gt ld j).dep-lg.cut,-(gt ld j).gr),(lg.dst,(gt ld j).arr,(gt ld j).gr)]) (Sl.row (ro:=false) zds (by rw [List.append_assoc,zHw];rfl))) rfl
   rw [hlj] at e2
   simp only [List.length_cons,List.length_nil,Nat.zero_add,Nat.reduceAdd,List.append_assoc,List.cons_append,List.nil_append] at e2 O2
   have k20:∀Z,zG (G2++Z) G'.length=.cells false (encD (gt ld j)):=fun Z=>by
    have:=K2 G'.length (by simp) fun a ha=>by have:=(hO'.block ha).2;omega
    rw [List.append_nil,zHn] at this
    exact (Ext.refl.app).cells this
   have k21:∀Z,zG (G2++Z) (G'.length+1)=.cells false (encL lg):=fun Z=>by
    have:=K2 (G'.length+1) (by simp) fun a ha=>by have:=(hO'.block ha).2;omega
    rw [List.append_nil,zHw] at this
    exact (Ext.refl.app).cells this
   have hCh2:Chg [] G (G2++[]):=C2 [] G (Nat.le_refl _) hCh.app
   by_cases g3':0<j
   ·have g4:0<(j:Int):=by omega
    have g5:¬0≤cmpD (gt ld (j-1)) (gt ld j):=by
     have:ldLt (gt ld (j-1)) (gt ld j):=Classical.byContradiction fun hh=>g3 ⟨g3',hh⟩
     rw [←cmpD_neg] at this;omega
    have lD1:=fun Z=>(sG.app Z).loadCells zDl (i:=j-1) (by omega)
    have xD1:=ix_N (i:=j-1) sG (by omega) rfl
    by_cases g6:lg.dst=to
    ·rw [if_pos g6] at eA
     simp only [n22,r22,q2,q3,q4,q12,q76,q77,q78,q15,q16,hlt,lD,xD,k12,kM,hfk,hko,w1,hlL,zSa,zDl,encD_0,encD_1,encD_2,encD_3,zLl,zL0,zL1,zL2,zL3,zL4,zL5,zL6,zL7,zTa,eq_false g1,eq_false g2,eq_true g4,hwj g3',lD1,xD1,compare_ok,eq_false g5,n22,r22,q2,q3,q4,q12,q76,q77,q78,q15,q16,k20,k21,wd,wn,wa,w1,zDl,encD_0,encD_1,encD_2,encD_3,zLl,zL0,zL1,zL2,zL3,zL4,zL5,zL6,zL7,zTa,e2,eq_true g6,SB,seval,zCa,aOp,zB,aUn,reduceCtorEq,zFr,place,zTu,zRe]
     exact hN (j+1,p',c') _ _ ⟨by show j+1≤_;omega,⟨(by exact q2),by exact q3,by exact q4,by exact q12⟩,by exact q76,by exact q77,(by rfl),by rw [eA];exact (by rfl),by rw [show s.length+2*(j+1)=s.length+(2*j+2) by omega];exact (by rfl),by rw [eC];exact O2,hCh2,fun i hi=>by rcases (by omega:i<j∨i=j) with h | h;exact hall i h;rw [h];exact hok⟩ (by show ld.length-(j+1)<ld.length-j;omega)
    ·rw [if_neg g6,Int.add_zero] at eA
     simp only [n22,r22,q2,q3,q4,q12,q76,q77,q78,q15,q16,hlt,lD,xD,k12,kM,hfk,hko,w1,hlL,zSa,zDl,encD_0,encD_1,encD_2,encD_3,zLl,zL0,zL1,zL2,zL3,zL4,zL5,zL6,zL7,zTa,eq_false g1,eq_false g2,eq_true g4,hwj g3',lD1,xD1,compare_ok,eq_false g5,n22,r22,q2,q3,q4,q12,q76,q77,q78,q15,q16,k20,k21,wd,wn,wa,w1,zDl,encD_0,encD_1,encD_2,encD_3,zLl,zL0,zL1,zL2,zL3,zL4,zL5,zL6,zL7,zTa,e2,eq_false g6,SB,seval,zCa,aOp,zB,aUn,reduceCtorEq,zFr,place,zTu,zRe]
     exact hN (j+1,p',c') _ _ ⟨by show j+1≤_;omega,⟨(by exact q2),by exact q3,by exact q4,by exact q12⟩,by exact q76,by exact q77,(by rfl),by rw [eA];exact (by exact q15),by rw [show s.length+2*(j+1)=s.length+(2*j+2) by omega];exact (by rfl),by rw [eC];exact O2,hCh2,fun i hi=>by rcases (by omega:i<j∨i=j) with h | h;exact hall i h;rw [h];exact hok⟩ (by show ld.length-(j+1)<ld.length-j;omega)
   ·have g4:¬0<(j:Int):=by omega
    by_cases g6:lg.dst=to
    ·rw [if_pos g6] at eA
     simp only [n22,r22,q2,q3,q4,q12,q76,q77,q78,q15,q16,hlt,lD,xD,k12,kM,hfk,hko,w1,hlL,zSa,zDl,encD_0,encD_1,encD_2,encD_3,zLl,zL0,zL1,zL2,zL3,zL4,zL5,zL6,zL7,zTa,eq_false g1,eq_false g2,eq_false g4,n22,r22,q2,q3,q4,q12,q76,q77,q78,q15,q16,k20,k21,wd,wn,wa,w1,zDl,encD_0,encD_1,encD_2,encD_3,zLl,zL0,zL1,zL2,zL3,zL4,zL5,zL6,zL7,zTa,e2,eq_true g6,SB,seval,zCa,aOp,zB,aUn,reduceCtorEq,zFr,place,zTu,zRe]
     exact hN (j+1,p',c') _ _ ⟨by show j+1≤_;omega,⟨(by exact q2),by exact q3,by exact q4,by exact q12⟩,by exact q76,by exact q77,(by rfl),by rw [eA];exact (by rfl),by rw [show s.length+2*(j+1)=s.length+(2*j+2) by omega];exact (by rfl),by rw [eC];exact O2,hCh2,fun i hi=>by rcases (by omega:i<j∨i=j) with h | h;exact hall i h;rw [h];exact hok⟩ (by show ld.length-(j+1)<ld.length-j;omega)
    ·rw [if_neg g6,Int.add_zero] at eA
     simp only [n22,r22,q2,q3,q4,q12,q76,q77,q78,q15,q16,hlt,lD,xD,k12,kM,hfk,hko,w1,hlL,zSa,zDl,encD_0,encD_1,encD_2,encD_3,zLl,zL0,zL1,zL2,zL3,zL4,zL5,zL6,zL7,zTa,eq_false g1,eq_false g2,eq_false g4,n22,r22,q2,q3,q4,q12,q76,q77,q78,q15,q16,k20,k21,wd,wn,wa,w1,zDl,encD_0,encD_1,encD_2,encD_3,zLl,zL0,zL1,zL2,zL3,zL4,zL5,zL6,zL7,zTa,e2,eq_false g6,SB,seval,zCa,aOp,zB,aUn,reduceCtorEq,zFr,place,zTu,zRe]
     exact hN (j+1,p',c') _ _ ⟨by show j+1≤_;omega,⟨(by exact q2),by exact q3,by exact q4,by exact q12⟩,by exact q76,by exact q77,(by rfl),by rw [eA];exact (by exact q15),by rw [show s.length+2*(j+1)=s.length+(2*j+2) by omega];exact (by rfl),by rw [eC];exact O2,hCh2,fun i hi=>by rcases (by omega:i<j∨i=j) with h | h;exact hall i h;rw [h];exact hok⟩ (by show ld.length-(j+1)<ld.length-j;omega)
noncomputable def checkV (P:List Int) (L:List Leg) (s:List Flow.Src) (to dl:Int) (ld:List Flow.Ld):Int×Bool:=
 haveI:=Classical.propDecidable (zAn P L s to dl=0∧goodL (zCc L to dl) s ld)
 if zAn P L s to dl=0∧goodL (zCc L to dl) s ld then (arrS to dl s+arrL (zCc L to dl) to ld,true) else (0,false)
theorem checkV_no {P:List Int} {L:List Leg} {s:List Flow.Src} {to dl:Int} {ld:List Flow.Ld} (h:¬(zAn P L s to dl=0∧goodL (zCc L to dl) s ld)):checkV P L s to dl ld=(0,false):=by
 unfold checkV
 rw [if_neg h]
theorem checkV_yes {P:List Int} {L:List Leg} {s:List Flow.Src} {to dl:Int} {ld:List Flow.Ld} (h1:zAn P L s to dl=0) (h2:goodL (zCc L to dl) s ld):checkV P L s to dl ld=(arrS to dl s+arrL (zCc L to dl) to ld,true):=by
 unfold checkV
 rw [if_pos ⟨h1,h2⟩]
theorem check_ok [OB] {mp:Bool} {lim:Nat} {pp pl ps p4:Option Addr} {P:List Int} {L:List Leg} {s:List Flow.Src} {ld:List Flow.Ld} {cp cl cs c4:Nat} {to dl:Int} {H:zH} {Q:Value→zH→Prop} (hn:NetIn H pp pl P L) (hs:Sl H encS 3 ps s) (hsl:s.length<2 ^ 63) (h4:Sl H encD 4 p4 ld) (hl4:ld.length≤200) (hLl:za6 P L=0→L.length≤8) :
  za0 E mp lim 22 [.agg (netV pp P.length cp pl L.length cl).toArray,.slice ps s.length cs,.int .i64 to,.int .i64 dl,.slice p4 ld.length c4] H Q=Q (.tuple #[.int .i64 (checkV P L s to dl ld).1,.bool (checkV P L s to dl ld).2]) H:=by
 refine pc (by decide) e22 rfl rfl ?_
 rw [b22,c22]
 have hlim:H.length≤H.length:=Nat.le_refl _
 by_cases ha:zAn P L s to dl=0
 case neg=>
  rw [checkV_no fun h=>ha h.1]
  simp only [n22,r22,zNl,zN0,zN1,hlim,zd1 (hn.app _) (hs.app _) hsl,eq_false ha,SB,seval,zCa,aOp,zB,aUn,reduceCtorEq,zFr,place,zTu,zRe]
 have hA:=allowed_0 ha
 have hL8:=hLl (allowed_v ha)
 have hCn:=countC_len (to:=to) (dl:=dl) hA.net.fine
 have hCm:∀c∈zCc L to dl,Fine c.1∧0≤c.2∧c.2+c.1.mins≤za1:=fun c hc=>by
  obtain ⟨h1,h2,d,_,h3,h4,h5⟩:=zaf hc
  have:=hA.d1
  exact ⟨hA.net.fine _ h1,by omega,by omega⟩
 have oldl:∀a,pl=some a→L≠[]→a.block<H.length:=fun a ha hn'=>by
  have:=hn.sl
  rw [ha] at this
  exact this.lt hn'
 simp only [n22,r22,zNl,zN0,zN1,hlim,zd1 (hn.app _) (hs.app _) hsl,ha,SB,seval,zCa,aOp,zB,aUn,reduceCtorEq,zFr,place,zTu,zRe]
 refine counted_ok ?_
 rw [Ret_ops_nil,Ret_block]
 try simp only [List.append_nil,List.append_assoc,List.cons_append,List.nil_append,List.length_append,List.length_cons,List.length_nil,Nat.zero_add,Nat.reduceAdd,Nat.add_assoc]
 obtain ⟨G0,hG0⟩:∃G0,G0=H++[Blk.cells false (netV pp P.length cp pl L.length cl),Blk.map [],Blk.cells false [.map (some (H.length+1))],Blk.cells false (netV pp P.length cp pl L.length cl),Blk.cells false [.int .i64 to],Blk.cells false [.int .i64 dl]]:=⟨_,rfl⟩
 have b1:zG G0 (H.length+1)=.map []:=by rw [hG0];exact zHw
 have b2:zG G0 (H.length+2)=.cells false [.map (some (H.length+1))]:=by rw [hG0];exact zHw
 have b3:zG G0 (H.length+3)=.cells false (netV pp P.length cp pl L.length cl):=by rw [hG0];exact zHw
 have b4:zG G0 (H.length+4)=.cells false [.int .i64 to]:=by rw [hG0];exact zHw
 have b5:zG G0 (H.length+5)=.cells false [.int .i64 dl]:=by rw [hG0];exact zHw
 have bo:∀b,b<H.length→zG G0 b=zG H b:=fun b hb=>by rw [hG0];exact zHo hb
 have bl:G0.length=H.length+6:=by rw [hG0];simp
 have sL0:Sl G0 encL 8 pl L:=by rw [hG0];exact hn.sl.app _
 have sS0:Sl G0 encS 3 ps s:=by rw [hG0];exact hs.app _
 have s40:Sl G0 encD 4 p4 ld:=by rw [hG0];exact h4.app _
 rw [←hG0]
 clear hG0
 refine legs_ok (M:=H.length+1) (B12:=H.length+2) (Bd2:=H.length+5) (Bn2:=H.length+3) (Bt2:=H.length+4) (np:=P.length) (cpn:=cp) (cl:=cl) (pp2:=pp) (pl:=pl) (L:=L) (to:=to) (dl:=dl) (Kk:=(H.length+3)::(H.length+4)::(H.length+5)::List.range H.length) (allowed_v ha) b1 b2 (by omega) (by rfl) (by rfl) b5 b3 b4 sL0 ⟨by simp,by simp,by simp,fun a ha' hne=>by simp [oldl a ha' hne]⟩ (fun b hb=>?_) hA.net.fine (by omega) hA.d0 hA.d1 fun G1 es hes hM1 hk1 hdf1 hl1=>?_
 ·simp only [List.mem_cons,List.mem_range] at hb
  omega
 rw [bl] at hl1
 have sS1:Sl G1 encS 3 ps s:=sl_keep sS0 fun a ha' hne=>by
  have h1:a.block<H.length:=by
   have:=hs;rw [ha'] at this;exact this.lt hne
  exact hk1 _ (by omega) (by omega)
 have s41:Sl G1 encD 4 p4 ld:=sl_keep s40 fun a ha' hne=>by
  have h1:a.block<H.length:=by
   have:=h4;rw [ha'] at this;exact this.lt hne
  exact hk1 _ (by omega) (by omega)
 have b12:zG G1 (H.length+2)=.cells false [.map (some (H.length+1))]:=(hk1 _ (by omega) (by omega)).trans b2
 have hsg:∀x∈s,0≤x.gr∧x.gr≤1000000000:=fun x hx=>(hA.src x hx).2.2.2
 have hs60:s.length≤60:=by have:=hA.ns;omega
 rw [show ∀(a b c d:zAi),[a,b,c]++[d]=[a,b,c,d] from fun _ _ _ _=>rfl]
 refine zRp ?_
 simp only [n22,r22,SB,seval,zCa,aOp,zB,aUn,reduceCtorEq,zFr,place,zTu,zRe]
 refine chkS_ok (p4:=p4) (n4:=ld.length) (c4:=c4) (cs:=cs) (B12:=H.length+2) (to:=to) (dl:=dl) ⟨(by rfl),(by rfl),(by rfl),(by rfl)⟩ (sS1.app _) hs60 hsg (by simp;omega) (by rfl) (by rfl) (by rfl) (by rfl) (by rfl) fun fr2 G2 p c hf2 hO2 hC2 q15 q16=>?_
 obtain ⟨q2,q3,q4,q12⟩:=hf2
 simp only [List.append_nil] at hO2 hC2
 have hl2:=hC2.len
 refine zRp ?_
 simp only [n22,r22,q2,q3,q4,q12,q15,q16,SB,seval,zCa,aOp,zB,aUn,reduceCtorEq,zFr,place,zTu,zRe]
 have hno:∀fr' G',fr' 10=.int .i64 0→fr' 11=.bool false→Chg [] G1 G'→¬goodL (zCc L to dl) s ld→∀K,Ret E a22 H.length [.code .retM,.code K,.code .retM,.mark G0.length] fr' G' fun v' x=>v'=Value.tuple #[Value.int IntKind.i64 (checkV P L s to dl ld).fst,Value.bool (checkV P L s to dl ld).snd]:=fun fr' G' h1 h2 h3 h4 K=>by
  have hd:zG G' G0.length=.dfr:=h3.get hdf1 (by omega) (by simp)
  rw [checkV_no fun h=>h4 h.2]
  simp only [n22,r22,h1,h2,hd,show H.length≤G0.length by omega,SB,seval,zCa,aOp,zB,aUn,reduceCtorEq,zFr,place,zTu,zRe]
 refine chkL_ok (p4:=p4) (c4:=c4) (B12:=H.length+2) (M:=H.length+1) (s:=s) (C:=zCc L to dl) (es:=es) (to:=to) (dl:=dl) ⟨(by exact q2),by exact q3,by exact q4,by exact q12⟩ s41 hl4 hs60 hsg hCm (by omega) b12 hM1 hes (by rw [List.append_nil];exact hC2) (hO2.app _) (by rfl) (by rfl) (by rfl) (by exact q15) (by exact q16) (fun fr3 G3 h1 h2 h3 h4=>?_) fun fr3 G3 p3 c3 hf3 hO3 hC3 hall q15 q16=>?_
 ·obtain ⟨i,hi,hni⟩:=h4
  exact hno _ _ h1 h2 h3 (fun h=>hni (h.1 i hi)) _
 obtain ⟨q2,q3,q4,q12⟩:=hf3
 have hl3:=hC3.len
 have hlen:(allCh (zCc L to dl) s ld).length≤500:=by
  unfold allCh srcCh
  rw [List.length_append,List.length_map]
  have hl2:∀l:List Flow.Ld,(l.flatMap (ldCh (zCc L to dl))).length=2*l.length:=fun l=>by
   induction l with
   | nil=>rfl
   | cons x l ih=>rw [List.flatMap_cons,List.length_append,ih,List.length_cons];show 2+_=_;omega
  rw [hl2];omega
 have hbd:∀x∈allCh (zCc L to dl) s ld,-100000000000≤x.2.2∧x.2.2≤100000000000:=fun x hx=>by
  rcases List.mem_append.1 hx with h1 | h1
  ·obtain ⟨y,hy,rfl⟩:=List.mem_map.1 h1
   have:=hsg y hy
   show _≤y.gr∧y.gr≤_;omega
  ·obtain ⟨y,hy,h2⟩:=List.mem_flatMap.1 h1
   obtain ⟨i,hi,rfl⟩:=List.mem_iff_getElem.1 hy
   obtain ⟨⟨lg,g1,g2,g3⟩,_⟩:=hall i hi
   obtain ⟨c2,hc2,_,hk⟩:=legM_some g1
   have hF:=(hCm c2 hc2).1
   rw [hk] at hF
   unfold Fine at hF
   rw [zGl hi] at g2 g3
   unfold ldCh at h2
   simp only [List.mem_cons,List.not_mem_nil,or_false] at h2
   rcases h2 with rfl | rfl
   ·show _≤-ld[i].gr∧-ld[i].gr≤_;omega
   ·show _≤ld[i].gr∧ld[i].gr≤_;omega
 refine zRp ?_
 simp only [n22,r22,q2,q3,q4,q12,q15,q16,SB,seval,zCa,aOp,zB,aUn,reduceCtorEq,zFr,place,zTu,zRe]
 refine enough_ok (hO3.app _) (by omega) (by simp;omega) (by omega) hbd fun b G4 hb hk4=>?_
 have hd3:zG G3 G0.length=.dfr:=hC3.get hdf1 (by omega) (by simp)
 have hd:zG G4 G0.length=.dfr:=by
  rw [hk4 _ (by simp;omega) (own_dfr hO3 hd3),List.append_nil];exact hd3
 cases b with
 | true=>
   rw [checkV_yes ha ⟨hall,hb.1 rfl⟩]
   simp only [n22,r22,q15,hd,show H.length≤G0.length by omega,SB,seval,zCa,aOp,zB,aUn,reduceCtorEq,zFr,place,zTu,zRe]
 | false=>
   rw [checkV_no fun h=>by cases hb.2 h.2.2]
   simp only [n22,r22,q15,hd,show H.length≤G0.length by omega,SB,seval,zCa,aOp,zB,aUn,reduceCtorEq,zFr,place,zTu,zRe]
end Go.Proofs.YtohnaffmcjbpoaaGreat.Fn

namespace Go.Flow
open Go.AM Go.Net
def Near:List Pr→List Pr→Prop
 | [],[]=>True
 | p::a,q::b=>(q.head=p.head∧q.tail=p.tail∧0≤q.flow∧q.flow≤p.room)∧Near a b
 | _,_=>False
theorem near_of:∀{a b:List Pr},b.length=a.length→(∀j,j<a.length→(gt b j).head=(gt a j).head∧(gt b j).tail=(gt a j).tail∧0≤(gt b j).flow∧(gt b j).flow≤(gt a j).room)→Near a b
 | [],[],_,_=>trivial
 | [],q::b,h,_=>by simp at h
 | p::a,[],h,_=>by simp at h
 | p::a,q::b,h,hj=>⟨hj 0 (by simp),near_of (by simpa using h) fun j hj'=>by have:=hj (j+1) (by simpa using hj');rw [zGc,zGc] at this;exact this⟩
theorem Near.split:∀{a b l:List Pr},Near (a++b) l→Near a (l.take a.length)∧Near b (l.drop a.length)
 | [],b,l,h=>⟨by simp [Near],h⟩
 | p::a,b,[],h=>by simp [Near] at h
 | p::a,b,q::l,h=>by
   obtain ⟨h1,h2⟩:=h
   obtain ⟨i1,i2⟩:=Near.split h2
   exact ⟨⟨h1,i1⟩,i2⟩
theorem Near.mem:∀{a b:List Pr},Near a b→∀q∈b,∃p∈a,q.head=p.head∧q.tail=p.tail∧0≤q.flow∧q.flow≤p.room
 | [],[],_,q,hq=>by cases hq
 | [],q'::b,h,_,_=>by cases h
 | p::a,[],h,_,_=>by cases h
 | p::a,q'::b,h,q,hq=>by
   rcases List.mem_cons.1 hq with rfl | hq
   ·exact ⟨p,List.mem_cons_self,h.1⟩
   ·obtain ⟨p',h1,h2⟩:=Near.mem h.2 q hq
    exact ⟨p',List.mem_cons_of_mem _ h1,h2⟩
theorem net_app {S:Nat→Bool}:∀{a b:List Pr},net S (a++b)=net S a+net S b
 | [],b=>by simp [net]
 | p::a,b=>by rw [List.cons_append,net,net,net_app];omega
theorem IsFlow.inner {n:Nat} {l:List Pr} (h:IsFlow n l) {S:Nat→Bool} (h0:S 0=false) (h1:S 1=false):net S l=0:=by
 have h2:=sumS_net (S:=S) h.lt
 rw [sumS_two h.bal n h.two,h0,h1] at h2
 simp at h2
 omega
section
variable {PL:List (Int×Int)} {to dl:Int} {s:List Src} {C:List (Leg×Int)} {l:List Pr}
theorem near_graph (h:PlOk PL to dl s C) (hs:∀x∈s,0≤x.gr) (hC:∀c∈C,0≤c.1.grams) (ha:Alike (zap PL to dl s C) l) (hf:IsFlow (PL.length+2) l):Near (zap PL to dl s C) l:=by
 refine near_of ha.len fun j hj=>?_
 obtain ⟨e1,e2⟩:=ha.gts j
 have hjl:j<l.length:=by rw [ha.len];exact hj
 have hn:=hf.nn _ (zag hjl)
 have hc:=ha.cap (2*j) (by omega)
 rw [show tw (2*j)=2*j+1 by unfold tw;rw [if_pos (by omega)],rm_even,rm_odd,rm_even,rm_odd] at hc
 have h0:=(zby h hs hC (zag hj)).2.2.2
 exact ⟨e1,e2,hn.2,by omega⟩
def upPl (PL:List (Int×Int)) (p t:Int) (v:Nat):Bool:=match v with
 | 0=>false
 | 1=>false
 | i+2=>decide (i<PL.length)&&decide ((gt PL i).1=p∧(gt PL i).2≤t)
theorem upPl_node {p t q u:Int} (hp:p≠to) (h:q≠to→(q,u)∈PL):upPl PL p t (zNo PL to q u)=decide (q=p∧u≤t):=by
 by_cases hq:q=to
 ·unfold zNo
  rw [if_pos hq]
  show false=_
  rw [eq_comm,decide_eq_false_iff_not]
  rintro ⟨e,_⟩
  exact hp (e▸hq)
 ·obtain ⟨h1,h2,h3⟩:=ze5 hq (h hq)
  rw [h1]
  show (decide (PL.idxOf (q,u)<PL.length)&&decide ((gt PL (PL.idxOf (q,u))).1=p∧(gt PL (PL.idxOf (q,u))).2≤t))=_
  rw [h3,decide_eq_true h2];rfl
theorem chain_net {p t:Int} (h:PlOk PL to dl s C) {A:List Pr} (hA:Near (zCp PL 2) A):0≤net (upPl PL p t) A:=by
 refine (flow_le_net fun q hq=>?_).1
 obtain ⟨p',hp',e1,e2,e3,_⟩:=hA.mem q hq
 refine ⟨e3,fun hh=>?_⟩
 obtain ⟨j,h1,h2,rfl⟩:=zcc.1 hp'
 rw [e1] at hh
 rw [e2]
 have e4:upPl PL p t (2+j+1)=(decide (j+1<PL.length)&&decide ((gt PL (j+1)).1=p∧(gt PL (j+1)).2≤t)):=by rw [show 2+j+1=j+1+2 by omega];rfl
 have e5:upPl PL p t (2+j)=(decide (j<PL.length)&&decide ((gt PL j).1=p∧(gt PL j).2≤t)):=by rw [show 2+j=j+2 by omega];rfl
 change upPl PL p t (2+j+1)=true at hh
 show upPl PL p t (2+j)=true
 rw [e4] at hh
 rw [e5]
 simp only [Bool.and_eq_true,decide_eq_true_eq] at hh⊢
 have hpw:=(List.pairwise_iff_getElem.mp h.lt) j (j+1) (by omega) h1 (by omega)
 rw [←zGl (by omega),←zGl h1] at hpw
 unfold plLt at hpw
 omega
theorem src_net {p t:Int} (hp:p≠to):∀{s:List Src} {B:List Pr},(∀x∈s,0≤x.gr)→(∀x∈s,x.rd≤dl→x.pl≠to→(x.pl,x.rd)∈PL)→Near (srcP PL to dl s) B→- net (upPl PL p t) B≤balC p t (srcCh s)
 | [],B,_,_,h=>by
   cases B with
   | nil=>exact Int.le_refl _
   | cons q B=>cases h
 | x::s,B,hs,hm,h=>by
   have hx:=hs x List.mem_cons_self
   have hs':=fun y hy=>hs y (List.mem_cons_of_mem x hy)
   have hm':=fun y hy=>hm y (List.mem_cons_of_mem x hy)
   have eb:balC p t (srcCh (x::s))=(if x.pl=p∧x.rd≤t then x.gr else 0)+balC p t (srcCh s):=rfl
   rw [eb]
   unfold srcP at h
   by_cases hr:x.rd≤dl
   ·rw [if_pos hr] at h
    cases B with
    | nil=>cases h
    | cons q B=>
      obtain ⟨⟨h1,h2,h3,h4⟩,h5⟩:=h
      have ih:=src_net (t:=t) hp (s:=s) (B:=B) hs' hm' h5
      have e1:upPl PL p t q.tail=false:=by rw [h2];rfl
      have e2:upPl PL p t q.head=decide (x.pl=p∧x.rd≤t):=by
       rw [h1];exact upPl_node hp fun hne=>hm x List.mem_cons_self hr hne
      rw [net,e1,e2]
      change q.flow≤x.gr at h4
      by_cases hc:x.pl=p∧x.rd≤t
      ·rw [if_pos hc,decide_eq_true hc];simp;omega
      ·rw [if_neg hc,decide_eq_false hc];simp;omega
   ·rw [if_neg hr] at h
    have ih:=src_net (t:=t) hp (s:=s) (B:=B) hs' hm' h
    split<;>omega
theorem way_net {p t:Int} {C0:List (Leg×Int)} (hp:p≠to) (hl:∀c∈C0,legM C0 (keyD c)=some c.1):∀{C:List (Leg×Int)} {X:List Pr},(∀c∈C,c∈C0)→(∀c∈C,(c.1.frm≠to∧(c.1.frm,c.2-c.1.cut)∈PL)∧(c.1.dst≠to→(c.1.dst,c.2+c.1.mins)∈PL))→Near (wayP PL to C) X→balC p t ((zav C X).flatMap (ldCh C0))=- net (upPl PL p t) X
 | [],X,_,_,h=>by
   cases X with
   | nil=>rfl
   | cons q X=>cases h
 | c::C,X,h0,hm,h=>by
   cases X with
   | nil=>cases h
   | cons q X=>
     obtain ⟨⟨h1,h2,h3,h4⟩,h5⟩:=h
     have ih:=way_net (t:=t) hp hl (C:=C) (X:=X) (fun y hy=>h0 y (List.mem_cons_of_mem _ hy)) (fun y hy=>hm y (List.mem_cons_of_mem _ hy)) h5
     obtain ⟨⟨m1,m2⟩,m3⟩:=hm c List.mem_cons_self
     have hk:legD C0 ⟨c.1.id,c.2,c.2+c.1.mins,q.flow⟩=c.1:=by
      unfold legD
      have:=hl c (h0 c List.mem_cons_self)
      unfold keyD at this
      show (legM C0 (c.1.id,c.2,c.2+c.1.mins)).getD default=_
      rw [this];rfl
     have e1:upPl PL p t q.tail=decide (c.1.frm=p∧c.2-c.1.cut≤t):=by rw [h2];exact upPl_node hp fun _=>m2
     have e2:upPl PL p t q.head=decide (c.1.dst=p∧c.2+c.1.mins≤t):=by rw [h1];exact upPl_node hp m3
     rw [zav,List.flatMap_append,balC_app,ih,net,e1,e2]
     by_cases hf:0<q.flow
     ·rw [if_pos hf,List.flatMap_cons,List.flatMap_nil,List.append_nil]
      unfold ldCh
      rw [hk]
      simp only [balC]
      by_cases c1:c.1.frm=p∧c.2-c.1.cut≤t<;>by_cases c2:c.1.dst=p∧c.2+c.1.mins≤t<;>simp [c1,c2]<;>omega
     ·rw [if_neg hf]
      have e0:q.flow=0:=by omega
      rw [e0]
      simp [balC]
theorem chain_exc {A:List Pr} (hA:Near (zCp PL 2) A):exc 1 A=0:=by
 have key:∀l:List Pr,(∀q∈l,q.head≠1∧q.tail≠1)→exc 1 l=0:=fun l=>by
  induction l with
  | nil=>intro _;rfl
  | cons q l ih=>
    intro h
    have:=h q List.mem_cons_self
    rw [exc,if_neg this.1,if_neg this.2,ih fun x hx=>h x (List.mem_cons_of_mem _ hx)];rfl
 refine key A fun q hq=>?_
 obtain ⟨p,hp,e1,e2,_⟩:=hA.mem q hq
 obtain ⟨j,_,_,rfl⟩:=zcc.1 hp
 rw [e1,e2]
 exact ⟨by show 2+j+1≠1;omega,by show 2+j≠1;omega⟩
theorem src_exc:∀{s:List Src} {B:List Pr},(∀x∈s,0≤x.gr)→Near (srcP PL to dl s) B→exc 1 B≤arrS to dl s
 | [],B,_,h=>by
   cases B with
   | nil=>exact Int.le_refl _
   | cons q B=>cases h
 | x::s,B,hs,h=>by
   have hx:=hs x List.mem_cons_self
   have hs':=fun y hy=>hs y (List.mem_cons_of_mem x hy)
   unfold srcP at h
   rw [arrS]
   by_cases hr:x.rd≤dl
   ·rw [if_pos hr] at h
    cases B with
    | nil=>cases h
    | cons q B=>
      obtain ⟨⟨h1,h2,h3,h4⟩,h5⟩:=h
      have ih:=src_exc (s:=s) (B:=B) hs' h5
      have e1:q.tail≠1:=by rw [h2];show 0≠1;omega
      change q.flow≤x.gr at h4
      change q.head=zNo PL to x.pl x.rd at h1
      rw [exc,if_neg e1]
      by_cases hc:x.pl=to
      ·rw [if_pos (show x.pl=to∧x.rd≤dl from ⟨hc,hr⟩)]
       split<;>omega
      ·have:q.head≠1:=by rw [h1];unfold zNo;rw [if_neg hc];omega
       rw [if_neg this,if_neg (show ¬(x.pl=to∧x.rd≤dl) from fun h=>hc h.1)];omega
   ·rw [if_neg hr] at h
    have ih:=src_exc (s:=s) (B:=B) hs' h
    rw [if_neg fun h=>hr h.2];omega
theorem way_exc {C0:List (Leg×Int)} (hl:∀c∈C0,legM C0 (keyD c)=some c.1):∀{C:List (Leg×Int)} {X:List Pr},(∀c∈C,c∈C0)→(∀c∈C,c.1.frm≠to)→Near (wayP PL to C) X→exc 1 X=arrL C0 to (zav C X)
 | [],X,_,_,h=>by
   cases X with
   | nil=>rfl
   | cons q X=>cases h
 | c::C,X,h0,hm,h=>by
   cases X with
   | nil=>cases h
   | cons q X=>
     obtain ⟨⟨h1,h2,h3,h4⟩,h5⟩:=h
     have ih:=way_exc hl (C:=C) (X:=X) (fun y hy=>h0 y (List.mem_cons_of_mem _ hy)) (fun y hy=>hm y (List.mem_cons_of_mem _ hy)) h5
     have hk:legD C0 ⟨c.1.id,c.2,c.2+c.1.mins,q.flow⟩=c.1:=by
      unfold legD
      have:=hl c (h0 c List.mem_cons_self)
      unfold keyD at this
      show (legM C0 (c.1.id,c.2,c.2+c.1.mins)).getD default=_
      rw [this];rfl
     have e1:q.tail≠1:=by
      rw [h2]
      show zNo PL to c.1.frm _≠1
      unfold zNo;rw [if_neg (hm c List.mem_cons_self)];omega
     have e2:q.head=1↔c.1.dst=to:=by
      rw [h1]
      show zNo PL to c.1.dst _=1↔_
      unfold zNo
      by_cases hd:c.1.dst=to
      ·simp [hd]
      ·rw [if_neg hd];simp [hd]
     rw [exc,if_neg e1,ih,zav,arrL_app]
     by_cases hf:0<q.flow
     ·rw [if_pos hf,arrL,arrL,hk]
      by_cases hd:c.1.dst=to
      ·rw [if_pos (e2.2 hd),if_pos hd];dsimp only;omega
      ·rw [if_neg fun h=>hd (e2.1 h),if_neg hd];omega
     ·rw [if_neg hf,arrL]
      split<;>omega
end
theorem planL_mem0:∀{C:List (Leg×Int)} {X:List Pr} {x:Ld},x∈zav C X→∃c∈C,x.leg=c.1.id∧x.dep=c.2∧x.arr=c.2+c.1.mins
 | [],X,x,h=>by cases X<;>simp [zav] at h
 | c::C,[],x,h=>by simp [zav] at h
 | c::C,q::X,x,h=>by
   rw [zav] at h
   rcases List.mem_append.1 h with h | h
   ·split at h
    ·rw [List.mem_singleton] at h
     subst h
     exact ⟨c,List.mem_cons_self,rfl,rfl,rfl⟩
    ·cases h
   ·obtain ⟨d,h1,h2⟩:=planL_mem0 h
    exact ⟨d,List.mem_cons_of_mem _ h1,h2⟩
theorem planL_mem {PL:List (Int×Int)} {to:Int}:∀{C:List (Leg×Int)} {X:List Pr} {x:Ld},Near (wayP PL to C) X→x∈zav C X→∃c∈C,x.leg=c.1.id∧x.dep=c.2∧x.arr=c.2+c.1.mins∧0<x.gr∧x.gr≤c.1.grams
 | [],X,x,_,h=>by cases X<;>simp [zav] at h
 | c::C,[],x,_,h=>by simp [zav] at h
 | c::C,q::X,x,hN,h=>by
   obtain ⟨⟨h1,h2,h3,h4⟩,h5⟩:=hN
   rw [zav] at h
   rcases List.mem_append.1 h with h | h
   ·split at h
    ·rename_i hf
     rw [List.mem_singleton] at h
     subst h
     exact ⟨c,List.mem_cons_self,rfl,rfl,rfl,hf,h4⟩
    ·cases h
   ·obtain ⟨d,g1,g2⟩:=planL_mem (PL:=PL) (to:=to) h5 h
    exact ⟨d,List.mem_cons_of_mem _ g1,g2⟩
def Apart (c d:Leg×Int):Prop:=¬(c.1.id=d.1.id∧c.2=d.2)
theorem planL_apart:∀{C:List (Leg×Int)} {X:List Pr},C.Pairwise Apart→(zav C X).Pairwise fun a b=>¬(a.leg=b.leg∧a.dep=b.dep)
 | [],X,_=>by cases X<;>simp [zav]
 | c::C,[],_=>by simp [zav]
 | c::C,q::X,h=>by
   obtain ⟨h1,h2⟩:=List.pairwise_cons.1 h
   have ih:=planL_apart (X:=X) h2
   rw [zav,List.pairwise_append]
   refine ⟨by split<;>simp,ih,fun a ha b hb e=>?_⟩
   split at ha
   ·rw [List.mem_singleton] at ha
    subst ha
    obtain ⟨d,hd,e1,e2,_⟩:=planL_mem0 hb
    exact h1 d hd ⟨e.1.trans e1,e.2.trans e2⟩
   ·cases ha
theorem countC_apart {L:List Leg} {to dl:Int} (h:L.Pairwise fun a b=>a.id≠b.id):(zCc L to dl).Pairwise Apart:=by
 unfold zCc
 rw [List.pairwise_flatMap]
 refine ⟨fun l _=>?_,h.imp fun {a b} hab x hx y hy e=>?_⟩
 ·unfold oneC
  split
  ·exact List.Pairwise.nil
  ·unfold legC
   rw [List.pairwise_flatMap]
   refine ⟨fun d _=>?_,List.pairwise_lt_range.imp fun {i j} hij x hx y hy e=>?_⟩
   ·unfold cntD;split<;>simp
   ·have e1:=(cntD_mem hx).1
    have e2:=(cntD_mem hy).1
    have e3:=e.2
    rw [e1,e2] at e3
    simp only at e3
    omega
 ·have e1:x.1=a:=by
   unfold oneC at hx
   split at hx
   ·cases hx
   ·exact (legC_mem hx).1
  have e2:y.1=b:=by
   unfold oneC at hy
   split at hy
   ·cases hy
   ·exact (legC_mem hy).1
  exact hab (by rw [←e1,←e2];exact e.1)
theorem legM_of {C:List (Leg×Int)} (hu:∀c∈C,∀d∈C,keyD c=keyD d→c.1=d.1):∀c∈C,legM C (keyD c)=some c.1:=fun c hc=>by
 cases h:legM C (keyD c) with
 | none=>exact absurd rfl (legM_none h c hc)
 | some l=>
   obtain ⟨d,h1,h2,h3⟩:=legM_some h
   rw [←h3,hu d h1 c hc h2]
section
variable {PL:List (Int×Int)} {to dl:Int} {s:List Src} {C:List (Leg×Int)} {l:List Pr} {SD:List Ld}
theorem bal_srcCh {p t:Int}:∀{s:List Src},(∀x∈s,0≤x.gr)→0≤balC p t (srcCh s)
 | [],_=>Int.le_refl _
 | x::s,h=>by
   have ih:=bal_srcCh (p:=p) (t:=t) (s:=s) fun y hy=>h y (List.mem_cons_of_mem _ hy)
   have:=h x List.mem_cons_self
   show 0≤(if x.pl=p∧x.rd≤t then x.gr else 0)+balC p t (srcCh s)
   split<;>omega
theorem plan_good (h:PlOk PL to dl s C) (hs:∀x∈s,0≤x.gr) (hC:∀c∈C,0≤c.1.grams) (hu:∀c∈C,∀d∈C,keyD c=keyD d→c.1=d.1) (hap:C.Pairwise Apart) (ha:Alike (zap PL to dl s C) l) (hf:IsFlow (PL.length+2) l)
  (hp:SD.Perm (zav C (l.drop (zCp PL 2++srcP PL to dl s).length))) (hpw:SD.Pairwise fun x y=>¬ldLt y x):goodL C s SD∧exc 1 l≤arrS to dl s+arrL C to SD:=by
 have hN:=near_graph h hs hC ha hf
 unfold zap at hN
 obtain ⟨n1,n2⟩:=hN.split
 obtain ⟨n3,n4⟩:=n1.split
 have hleg:=legM_of hu
 have hfrm:∀c∈C,c.1.frm≠to:=fun c hc=>(h.from' c hc).1
 obtain ⟨n,hn⟩:∃n,n=(zCp PL 2++srcP PL to dl s).length:=⟨_,rfl⟩
 rw [←hn] at n1 n2 n3 n4 hp
 have el:l=(l.take n).take (zCp PL 2).length++(l.take n).drop (zCp PL 2).length++l.drop n:=by
  rw [List.take_append_drop,List.take_append_drop]
 have hap2:SD.Pairwise fun a b=>¬(a.leg=b.leg∧a.dep=b.dep):=(hp.pairwise_iff fun {x y} hxy e=>hxy ⟨e.1.symm,e.2.symm⟩).2 (planL_apart hap)
 refine ⟨⟨fun i hi=>⟨?_,fun h0=>?_⟩,fun p t=>?_⟩, ?_⟩
 ·obtain ⟨c,hc,e1,e2,e3,e4,e5⟩:=planL_mem n2 (hp.mem_iff.1 (zag hi))
  refine ⟨c.1, ?_,by omega,e5⟩
  unfold keyL
  rw [e1,e2,e3]
  exact hleg c hc
 ·have h1:=List.pairwise_iff_getElem.1 hpw (i-1) i (by omega) hi (by omega)
  have h2:=List.pairwise_iff_getElem.1 hap2 (i-1) i (by omega) hi (by omega)
  have g1:=zGl (show i-1<SD.length by omega)
  have g2:=zGl hi
  rw [←g1,←g2] at h1 h2
  unfold ldLt at h1⊢
  omega
 ·unfold allCh
  rw [balC_app,balC_perm (hp.flatMap_right _)]
  by_cases hpt:p=to
  ·have h1:=bal_srcCh (p:=p) (t:=t) hs
   have h2:0≤balC p t ((zav C (l.drop n)).flatMap (ldCh C)):=by
    have key:∀M:List Ld,(∀x∈M,0≤x.gr∧(legD C x).frm≠to)→0≤balC p t (M.flatMap (ldCh C)):=fun M=>by
     induction M with
     | nil=>intro _;exact Int.le_refl _
     | cons x M ih=>
       intro hM
       have:=hM x List.mem_cons_self
       have ih:=ih fun y hy=>hM y (List.mem_cons_of_mem _ hy)
       rw [List.flatMap_cons,balC_app]
       unfold ldCh at ih⊢
       simp only [balC]
       rw [if_neg fun e=>this.2 (e.1.trans hpt)]
       split<;>omega
    refine key _ fun x hx=>?_
    obtain ⟨c,hc,e1,e2,e3,e4,e5⟩:=planL_mem n2 hx
    refine ⟨by omega, ?_⟩
    have:legD C x=c.1:=by
     unfold legD keyL
     rw [e1,e2,e3]
     have:=hleg c hc
     unfold keyD at this
     rw [this];rfl
    rw [this];exact hfrm c hc
   omega
  ·have h1:=way_net (t:=t) hpt hleg (C:=C) (X:=l.drop n) (fun c hc=>hc) (fun c hc=>⟨h.from' c hc,h.dest c hc⟩) n2
   have h2:=src_net (t:=t) hpt hs h.src n4
   have h3:=chain_net (p:=p) (t:=t) h n3
   have h4:=hf.inner (S:=upPl PL p t) rfl rfl
   rw [el,net_app,net_app] at h4
   omega
 ·have h1:=chain_exc n3
  have h2:=src_exc hs n4
  have h3:=way_exc hleg (C:=C) (X:=l.drop n) (fun c hc=>hc) hfrm n2
  have h4:arrL C to SD=arrL C to (zav C (l.drop n)):=by
   have key:∀{a b:List Ld},a.Perm b→arrL C to a=arrL C to b:=fun {a b} h=>by
    induction h with
    | nil=>rfl
    | cons x h ih=>rw [arrL,arrL,ih]
    | swap x y l=>simp only [arrL];omega
    | trans h1 h2 i1 i2=>exact i1.trans i2
   exact key hp
  rw [el,exc_app,exc_app,h1,h4]
  omega
end
end Go.Flow
namespace Go.Proofs.YtohnaffmcjbpoaaGreat.Fn
open Go.AM Go.AM.Sym Go.Net Go.Flow
structure BN (fr:Nat→Value) (v2 v3 v5 v9 v12 v14 v15 v16 v17 v18:Value):Prop where
 f2:fr 2=v2
 f3:fr 3=v3
 f5:fr 5=v5
 f9:fr 9=v9
 f12:fr 12=v12
 f14:fr 14=v14
 f15:fr 15=v15
 f16:fr 16=v16
 f17:fr 17=v17
 f18:fr 18=v18
section
variable {H:zH} {pp pl ps pt q:Option Addr} {P V:List Int} {L:List Leg} {s:List Flow.Src} {cp cl cs ct nq cq:Nat} {to dl:Int}
end
theorem legs_apart {P:List Int} {L:List Leg} (h:za6 P L=0):L.Pairwise fun a b=>a.id≠b.id:=by
 have hL:=(zdi h).2.2.2
 rw [List.pairwise_iff_getElem]
 intro i j hi hj hij e
 have:=(hL j hj).2.1
 rw [zGl hj,←e] at this
 exact this (List.mem_map.2 ⟨L[i],List.mem_take_iff_getElem.2 ⟨i,by omega,rfl⟩,rfl⟩)
section
variable {P:List Int} {L:List Leg} {s:List Flow.Src} {to dl:Int}
theorem plan_half (ha:zAn P L s to dl=0) {v:Int} {T:Int→Option Int} (hb:BestC s (zCc L to dl) to dl T v) {SD:List Flow.Ld} {SL:List (Int×Int)} {l:List Pr} (hp:SD.Perm (zav (zCc L to dl) (l.drop (zCp SL 2++srcP SL to dl s).length))) (hpw:SD.Pairwise fun x y=>¬ldLt y x) (hPO:PlanOf P L s to dl SL l):goodL (zCc L to dl) s SD∧mostN s (zCc L to dl) to dl≤arrS to dl s+arrL (zCc L to dl) to SD:=by
 have hA:=allowed_0 ha
 have hv:=allowed_v ha
 obtain ⟨h1,h2⟩:=plan_good hPO.pl (fun x hx=>(hA.src x hx).2.2.2.1) (fun c hc=>by
  have:=hA.net.fine _ (zaf hc).1
  unfold Fine at this;omega) (keyD_uniq hv) (countC_apart (legs_apart hv)) hPO.al hPO.fl hp hpw
 rw [hPO.val] at h2
 exact ⟨h1,by omega⟩
end
end Go.Proofs.YtohnaffmcjbpoaaGreat.Fn

namespace Go.Flow
open Go.AM Go.Net
def leg2:Leg:=⟨1,1,2,600,60,0,100,127⟩
def P2:List Int:=[1,2]
def L2:List Leg:=[leg2]
def s2:List Src:=[⟨1,0,250⟩]
def T2:Int→Option Int:=fun p=>if p=1 then some 0 else none
theorem c660:zCc L2 2 660=[(leg2,600)]:=by decide
theorem c2100:zCc L2 2 2100=[(leg2,600),(leg2,2040)]:=by decide
theorem c3540:zCc L2 2 3540=[(leg2,600),(leg2,2040),(leg2,3480)]:=by decide
theorem wS2 {U:Int→Option Int} {dl:Int} (h:0≤dl):wS U dl s2=if late U 1 0=true then 250 else 0:=by
 show (if (0:Int)≤dl∧late U 1 0=true then (250:Int) else 0)+0=_
 by_cases hl:late U 1 0=true
 ·rw [if_pos ⟨h,hl⟩,if_pos hl];rfl
 ·rw [if_neg fun q=>hl q.2,if_neg hl];rfl
theorem tC2 {U:Int→Option Int} {a:Int} (hU:U 2=none):tC U (leg2,a)=if late U 1 a=false then 100 else 0:=by
 have h2:late U 2 (a+60)=true:=by unfold late;rw [hU]
 show (if late U 1 (a-0)=false∧late U 2 (a+60)=true then (100:Int) else 0)=_
 rw [Int.sub_zero]
 by_cases hl:late U 1 a=false
 ·rw [if_pos ⟨hl,h2⟩,if_pos hl]
 ·rw [if_neg fun q=>hl q.1,if_neg hl]
theorem late_no {U:Int→Option Int} {a:Int} (h:¬late U 1 0=true) (ha:0≤a):late U 1 a=false∧∃u,U 1=some u∧u≤0:=by
 unfold late at *
 cases hu:U 1 with
 | none=>rw [hu] at h;simp at h
 | some u=>
   rw [hu] at h
   simp only [decide_eq_true_eq] at h
   exact ⟨by simp;omega,u,rfl,by omega⟩
theorem best660:BestC s2 (zCc L2 2 660) 2 660 T2 100:=by
 have hw:∀U:Int→Option Int,U 2=none→wt U s2 (zCc L2 2 660) 660=(if late U 1 0=true then 250 else 0)+(if late U 1 600=false then 100 else 0):=fun U hU=>by
  unfold wt
  rw [wS2 (by decide),c660,wC_cons,tC2 hU]
  show _+(_+0)=_
  omega
 refine ⟨by decide,fun U hU=>?_,by decide,fun U hU h p t hp=>?_⟩
 ·rw [hw U hU]
  by_cases hl:late U 1 0=true
  ·rw [if_pos hl];split<;>omega
  ·rw [if_neg hl,if_pos (late_no hl (by decide)).1];omega
 ·rw [hw U hU] at h
  unfold T2 at hp
  split at hp
  ·rename_i e
   cases hp
   rw [e]
   by_cases hl:late U 1 0=true
   ·rw [if_pos hl] at h;split at h<;>omega
   ·exact (late_no hl (by decide:(0:Int)≤600)).2
  ·cases hp
theorem best2100:BestC s2 (zCc L2 2 2100) 2 2100 T2 200:=by
 have hw:∀U:Int→Option Int,U 2=none→wt U s2 (zCc L2 2 2100) 2100=(if late U 1 0=true then 250 else 0)+((if late U 1 600=false then 100 else 0)+(if late U 1 2040=false then 100 else 0)):=fun U hU=>by
  unfold wt
  rw [wS2 (by decide),c2100,wC_cons,wC_cons,tC2 hU,tC2 hU]
  show _+(_+(_+0))=_
  omega
 refine ⟨by decide,fun U hU=>?_,by decide,fun U hU h p t hp=>?_⟩
 ·rw [hw U hU]
  by_cases hl:late U 1 0=true
  ·rw [if_pos hl];split<;>split<;>omega
  ·rw [if_neg hl,if_pos (late_no hl (by decide)).1,if_pos (late_no hl (by decide)).1];omega
 ·rw [hw U hU] at h
  unfold T2 at hp
  split at hp
  ·rename_i e
   cases hp
   rw [e]
   by_cases hl:late U 1 0=true
   ·rw [if_pos hl] at h;split at h<;>split at h<;>omega
   ·exact (late_no hl (by decide:(0:Int)≤600)).2
  ·cases hp
theorem best3540:BestC s2 (zCc L2 2 3540) 2 3540 noT 250:=by
 have hw:∀U:Int→Option Int,U 2=none→wt U s2 (zCc L2 2 3540) 3540=(if late U 1 0=true then 250 else 0)+((if late U 1 600=false then 100 else 0)+((if late U 1 2040=false then 100 else 0)+(if late U 1 3480=false then 100 else 0))):=fun U hU=>by
  unfold wt
  rw [wS2 (by decide),c3540,wC_cons,wC_cons,wC_cons,tC2 hU,tC2 hU,tC2 hU]
  show _+(_+(_+(_+0)))=_
  omega
 refine ⟨rfl,fun U hU=>?_,by decide,fun U hU h p t hp=>by cases hp⟩
 rw [hw U hU]
 by_cases hl:late U 1 0=true
 ·rw [if_pos hl];split<;>split<;>split<;>omega
 ·rw [if_neg hl,if_pos (late_no hl (by decide)).1,if_pos (late_no hl (by decide)).1,if_pos (late_no hl (by decide)).1];omega
def both2:List Ld:=[⟨1,600,660,100⟩,⟨1,2040,2100,100⟩]
theorem cut2100:cutL T2 (zCc L2 2 2100)=both2:=by decide
theorem cut3540:cutL noT (zCc L2 2 3540)=[]:=by decide
theorem plan2100 {SD:List Ld} (hl:SD.length≤2) (h:goodL (zCc L2 2 2100) s2 SD) (ha:200≤arrS 2 2100 s2+arrL (zCc L2 2 2100) 2 SD):SD=both2:=by
 have e0:arrS 2 2100 s2=0:=by decide
 rw [e0,Int.zero_add] at ha
 have hx:∀i,i<SD.length→(legD (zCc L2 2 2100) (gt SD i)).dst=2∧(gt SD i).gr≤100∧(keyL (gt SD i)=(1,600,660)∨keyL (gt SD i)=(1,2040,2100)):=fun i hi=>by
  obtain ⟨⟨lg,h1,h2,h3⟩,_⟩:=h.1 i hi
  obtain ⟨c,k1,k2,k3⟩:=legM_some h1
  have hlg:legD (zCc L2 2 2100) (gt SD i)=lg:=by unfold legD;rw [h1];rfl
  rw [c2100] at k1
  simp only [List.mem_cons,List.not_mem_nil,or_false] at k1
  rw [hlg]
  rcases k1 with rfl | rfl
  ·subst k3
   exact ⟨rfl,h3,.inl k2.symm⟩
  ·subst k3
   exact ⟨rfl,h3,.inr k2.symm⟩
 match SD,hl,h,ha,hx with
 | [],_,_,ha,_=>exact absurd ha (by decide)
 | [x],_,_,ha,hx=>
   obtain ⟨h1,h2,_⟩:=hx 0 (by simp)
   change (legD _ x).dst=2 at h1
   change x.gr≤100 at h2
   rw [arrL,if_pos h1] at ha
   change 200≤x.gr+0 at ha
   omega
 | [x,y],_,h,ha,hx=>
   obtain ⟨h1,h2,h3⟩:=hx 0 (by simp)
   obtain ⟨g1,g2,g3⟩:=hx 1 (by simp)
   change (legD _ x).dst=2 at h1
   change x.gr≤100 at h2
   change (legD _ y).dst=2 at g1
   change y.gr≤100 at g2
   change keyL x=_∨keyL x=_ at h3
   change keyL y=_∨keyL y=_ at g3
   rw [arrL,if_pos h1,arrL,if_pos g1] at ha
   change 200≤x.gr+(y.gr+0) at ha
   have hlt:ldLt x y:=(h.1 1 (by simp)).2 (by decide)
   obtain ⟨xl,xd,xa,xg⟩:=x
   obtain ⟨yl,yd,ya,yg⟩:=y
   unfold keyL at h3 g3
   unfold ldLt at hlt
   simp only [Prod.mk.injEq] at h3 g3
   simp only at hlt h2 g2 ha
   unfold both2
   simp only [List.cons.injEq,Ld.mk.injEq,and_true]
   omega
end Go.Flow

namespace Go.Proofs.YtohnaffmcjbpoaaGreat.Fn
open Go.AM Go.AM.Sym Go.Net Go.Flow
theorem daily_ok [OB] {lim:Nat} {a b c d e f g:Int} {H:zH} {Q:Value→zH→Prop} (hlim:lim≤H.length) (hQ:∀Z,Q (.agg (encL ⟨a,b,c,d,e,f,g,127⟩).toArray) (H++Z)):za0 E false lim 11 [.int .i64 a,.int .i64 b,.int .i64 c,.int .i64 d,.int .i64 e,.int .i64 f,.int .i64 g] H Q:=by
 refine zbq (by decide) e11 rfl ?_
 rw [b11,c11]
 simp only [n11,r11,encL,hlim,zSa,SB,seval,zCa,aOp,zB,aUn,reduceCtorEq,zFr,place,zTu,zRe]
 exact hQ _
theorem two_ok [OB] {lim:Nat} {H:zH} {Q:Value→zH→Prop} (hlim:lim≤H.length) (hQ:∀H' a b,Ext H H'→NetIn H' a b P2 L2→Q (.agg (netV a P2.length 2 b L2.length 1).toArray) H'):za0 E false lim 20 [] H Q:=by
 refine zbq (by decide) e20 rfl ?_
 rw [b20,c20]
 simp only [n20,r20,hlim,SB,seval,zCa,aOp,zB,aUn,reduceCtorEq,zFr,place,zTu,zRe]
 refine daily_ok (by simp;omega) fun Z=>?_
 obtain ⟨G,hG⟩:∃G,G=H++[Blk.cells false [.slice none 0 0,.slice none 0 0],Blk.cells false [.int .i64 1,.int .i64 2]]++Z:=⟨_,rfl⟩
 have b0:zG G H.length=.cells false [.slice none 0 0,.slice none 0 0]:=by rw [hG,List.append_assoc];exact zHn
 have b1:zG G (H.length+1)=.cells false [.int .i64 1,.int .i64 2]:=by rw [hG,List.append_assoc];exact zHw
 have hE:Ext H G:=by rw [hG,List.append_assoc];exact Ext.refl.app
 have hl:=zHa b1
 rw [←hG]
 clear hG
 obtain ⟨G2,e2,k2,m2⟩:=za4 (zHa b0) (.cells false [.slice (some ⟨H.length+1,0,none⟩) 2 2,.slice (some ⟨G.length,0,none⟩) 1 1])
 have b0X:=fun Z=>(Ext.refl.app (X:=Z)).cells b0
 have k2X:=fun Z=>(Ext.refl.app (X:=Z)).cells k2
 refine zRp ?_
 simp only [n20,r20,encL,zSa,hlim,b0X,e2,k2X,SB,seval,zCa,aOp,zB,aUn,reduceCtorEq,zFr,place,zTu,zRe]
 have hl2:=m2.len
 refine hQ _ (some ⟨H.length+1,0,none⟩) (some ⟨G.length,0,none⟩) ((m2.ext hE (Nat.le_refl _)).app) ⟨Sl.row (ro:=false) zIl (by rw [zHo (by omega)];exact m2.cells b1 (by omega)),Sl.row (ro:=false) zLl (by rw [←hl2,zHn];rfl),by decide,by decide, ?_⟩
 intro l hl
 simp only [L2,List.mem_cons,List.not_mem_nil,or_false] at hl
 subst hl
 unfold By;decide
theorem al2:∀j,j<3→zAn P2 L2 s2 2 (gt [660,2100,3540] j)=0∧mostA P2 L2 s2 2 (gt [660,2100,3540] j)=gt [100,200,250] j:=fun j hj=>by
 rcases (by omega:j=0∨j=1∨j=2) with rfl | rfl | rfl
 ·have h:zAn P2 L2 s2 2 660=0:=by decide
  exact ⟨h,(if_pos h).trans (zbe best660).1.symm⟩
 ·have h:zAn P2 L2 s2 2 2100=0:=by decide
  exact ⟨h,(if_pos h).trans (zbe best2100).1.symm⟩
 ·have h:zAn P2 L2 s2 2 3540=0:=by decide
  exact ⟨h,(if_pos h).trans (zbe best3540).1.symm⟩
theorem A2100:zAn P2 L2 s2 2 2100=0:=by decide
theorem A3540:zAn P2 L2 s2 2 3540=0:=by decide
theorem awake_go [OB] {mp:Bool} {lim:Nat} {H:zH} {Q:Value→zH→Prop} (hoff:OB.on 7=false):za0 E mp lim 7 [] H Q=Q (.bool true) H:=by
 refine CallR_pure (E:=E) (by simp [E,orc,hoff]) (show E.tr 7=some a7 from e7) rfl rfl (zRp ?_)
 rw [b7,c7]
 simp only [n7,r7,SB,seval,zCa,aOp,zB,aUn,reduceCtorEq,zFr,place,zTu,zRe]
 refine zRr (fun j=>3-j) (fun j fr G=>j≤3∧fr 1=.slice (some ⟨H.length,0,none⟩) 1 1∧fr 17=.slice (some ⟨H.length+1,0,none⟩) 3 3∧fr 18=.int .i64 3∧fr 19=.int .i64 (j:Int)∧H.length+2≤G.length∧zG G H.length=.cells false (s2.flatMap encS)∧zG G (H.length+1)=.cells false ([660,2100,3540].flatMap encI)) 0 ⟨by decide,(by rfl),(by rfl),(by rfl),by rfl,by simp,zHn,zHw⟩ ?_
 intro j fr G ⟨hj,f1,f17,f18,f19,hlG,hs1,hs17⟩ hN
 rw [zRc l7_1.eq_1]
 refine zRp ?_
 by_cases hlt:j<3
 case pos=>
  obtain ⟨ha,hm⟩:=al2 j hlt
  have sT:Sl G encI 1 (some ⟨H.length+1,0,none⟩) [660,2100,3540]:=Sl.row (ro:=false) zIl hs17
  have lT:=zdx sT hlt
  have xT:=ix_ints sT hlt rfl
  have hjc:(j:Int)<3:=by omega
  have w1:IntKind.i64.wrap ((j:Int)+1)=((j+1:Nat):Int):=zWn (by omega)
  simp only [n7,r7,f1,f17,f18,f19,eq_true hjc,lT,xT,SB,seval,zCa,aOp,zB,aUn,reduceCtorEq,zFr,place,zTu,zRe]
  rw [List.append_nil]
  refine two_ok (by omega) fun G1 a b hE hn=>?_
  have hl1:=hE.len
  have s1:Sl G1 encS 3 (some ⟨H.length,0,none⟩) s2:=hE.sl (Sl.row (ro:=false) zEl hs1)
  have hmo:=fun Z (mp:Bool) (lim:Nat) (Q:Value→zH→Prop)=>most_ok (mp:=mp) (lim:=lim) (cp:=2) (cl:=1) (cs:=1) (to:=2) (dl:=gt [660,2100,3540] j) (Q:=Q) (hn.app Z) (s1.app Z) (by decide) fun _=>by decide
  rw [hm,ha] at hmo
  have sA:Sl (G1++[Blk.cells false [.int .i64 100,.int .i64 200,.int .i64 250]]) encI 1 (some ⟨G1.length,0,none⟩) [100,200,250]:=Sl.row (ro:=false) zIl zHn
  have lA:=zdx (i:=j) sA hlt []
  rw [List.append_nil] at lA
  have xA:=ix_ints (i:=j) (n:=3) sA hlt rfl
  simp only [show s2.length=1 from rfl] at hmo
  have hmo0:=hmo []
  rw [List.append_nil] at hmo0
  simp only [n7,r7,f1,f17,f18,f19,hmo0,lA,xA,w1,SB,seval,zCa,aOp,zB,aUn,reduceCtorEq,zFr,place,zTu,zRe]
  refine hN (j+1) _ _ ⟨by omega,by exact f1,by exact f17,by exact f18,(by rfl),by simp;omega,(hE.app).cells hs1,(hE.app).cells hs17⟩ (by omega)
 obtain rfl:j=3:=by omega
 simp only [n7,r7,f1,f17,f18,f19,SB,seval,zCa,aOp,zB,aUn,reduceCtorEq,zFr,place,zTu,zRe]
 refine two_ok (by simp;omega) fun G1 a1 b1 hE1 hn1=>?_
 have hl1:=hE1.len
 simp only [List.length_append,List.length_cons,List.length_nil] at hl1
 have s1:Sl G1 encS 3 (some ⟨H.length,0,none⟩) s2:=hE1.sl ((Sl.row (ro:=false) zEl hs1).app _)
 have d1:Sl G1 encD 4 (some ⟨G.length,0,none⟩) both2:=hE1.sl (Sl.row (ro:=false) zDl zHn)
 clear hE1
 refine zRp ?_
 simp only [n7,r7,f1,SB,seval,zCa,aOp,zB,aUn,reduceCtorEq,zFr,place,zTu,zRe]
 refine plan_ok (s:=s2) (hn1.app _) (s1.app _) (by decide) (by simp;omega) A2100 fun G2 q2 cq2 SD SL l hO hp hpw hPO hC2=>?_
 obtain ⟨hgo,hge⟩:=plan_half A2100 best2100 hp hpw hPO
 rw [←(zbe best2100).1] at hge
 have hSD:SD=both2:=plan2100 (by rw [hp.length_eq];refine Nat.le_trans planL_len ?_;decide) hgo hge
 have hck:checkV P2 L2 s2 2 2100 SD=(200,true):=by
  rw [checkV_yes A2100 hgo,hSD]
  rw [show arrS 2 2100 s2+arrL (zCc L2 2 2100) 2 both2=200 by decide]
 subst hSD
 have hl2:=hC2.len
 simp only [List.length_append,List.length_cons,List.length_nil] at hl2
 have q2S:=hO.sl zDl
 have s2S:=hC2.sl (s1.app _) fun _ _ _=>by simp
 have d2S:=hC2.sl (d1.app _) fun _ _ _=>by simp
 clear hO hp hpw hPO hC2 hgo hge s1 d1 hn1
 refine zRp ?_
 simp only [n7,r7,f1,SB,seval,zCa,aOp,zB,aUn,reduceCtorEq,zFr,place,zTu,zRe]
 refine two_ok (by simp;omega) fun G3 a3 b3 hE3 hn3=>?_
 have hl3:=hE3.len
 simp only [List.length_append,List.length_cons,List.length_nil] at hl3
 have q3S:=hE3.sl (q2S.app _)
 have s3S:=hE3.sl (s2S.app _)
 have d3S:=hE3.sl (d2S.app _)
 clear hE3 q2S s2S d2S
 have hcm:=fun Z (mp:Bool) (lim:Nat) (Q:Value→zH→Prop)=>check_ok (mp:=mp) (lim:=lim) (Q:=Q) (cp:=2) (cl:=1) (cs:=1) (c4:=cq2) (to:=2) (dl:=2100) (hn3.app Z) (s3S.app Z) (by decide) (q3S.app Z) (by decide) fun _=>by decide
 simp only [hck,show s2.length=1 from rfl] at hcm
 refine zRp ?_
 simp only [n7,r7,f1,hcm,SB,seval,zCa,aOp,zB,aUn,reduceCtorEq,zFr,place,zTu,zRe]
 refine two_ok (by simp;omega) fun G4 a4 b4 hE4 hn4=>?_
 have hl4:=hE4.len
 simp only [List.length_append,List.length_cons,List.length_nil] at hl4
 have q4S:=hE4.sl (q3S.app _)
 have s4S:=hE4.sl (s3S.app _)
 have d4S:=hE4.sl (d3S.app _)
 clear hE4 q3S s3S d3S hcm hn3
 refine zRp ?_
 simp only [n7,r7,f1,SB,seval,zCa,aOp,zB,aUn,reduceCtorEq,zFr,place,zTu,zRe]
 refine bind_ok (s:=s2) (hn4.app _) (s4S.app _) (by decide) (by decide) (by simp;omega) A2100 fun G5 pt5 ct5 q5 c5 SD5 hOt5 hOq5 hp5 hpw5 hC5=>?_
 simp only [List.length_append,List.length_cons,List.length_nil] at hOt5 hOq5
 have hSD5:SD5=both2:=by
  rw [←(zbe best2100).2,cut2100] at hp5
  exact sorted_uniq hp5 hpw5 (by decide) fun x hx y hy hd _=>by
   have h1:=hp5.mem_iff.1 hx
   have h2:=hp5.mem_iff.1 hy
   simp only [both2,List.mem_cons,List.not_mem_nil,or_false] at h1 h2
   rcases h1 with rfl | rfl<;>rcases h2 with rfl | rfl<;>first | rfl | exact absurd hd (by decide)
 subst hSD5
 rw [←(zbe best2100).2,show zbt T2 P2=[0,-1] by decide] at hOt5
 have hl5:=hC5.len
 simp only [List.length_append,List.length_cons,List.length_nil] at hl5
 have t5S:=hOt5.sl zIl
 have p5S:=hOq5.sl zDl
 have q5S:=hC5.sl (q4S.app _) fun _ _ _=>by simp
 have s5S:=hC5.sl (s4S.app _) fun _ _ _=>by simp
 have d5S:=hC5.sl (d4S.app _) fun _ _ _=>by simp
 clear hOt5 hOq5 hp5 hpw5 hC5 q4S s4S d4S hn4
 refine zRp ?_
 simp only [n7,r7,f1,zSa,show H.length≤G5.length by omega,SB,seval,zCa,aOp,zB,aUn,reduceCtorEq,zFr,place,zTu,zRe]
 refine two_ok (by simp;omega) fun G6 a6 b6 hE6 hn6=>?_
 have hl6:=hE6.len
 simp only [List.length_append,List.length_cons,List.length_nil] at hl6
 have k6:zG G6 G5.length=.cells false [.slice pt5 2 ct5,.slice q5 2 c5]:=hE6.cells zHn
 have k6X:=fun Z=>(Ext.refl.app (X:=Z)).cells k6
 have t6S:=hE6.sl (t5S.app _)
 have p6S:=hE6.sl (p5S.app _)
 have q6S:=hE6.sl (q5S.app _)
 have s6S:=hE6.sl (s5S.app _)
 have d6S:=hE6.sl (d5S.app _)
 clear hE6 t5S p5S q5S s5S d5S
 refine zRp ?_
 simp only [n7,r7,f1,SB,seval,zCa,aOp,zB,aUn,reduceCtorEq,zFr,place,zTu,zRe]
 refine bind_ok (s:=s2) (hn6.app _) (s6S.app _) (by decide) (by decide) (by simp;omega) A3540 fun G7 pt7 ct7 q7 c7 SD7 hOt7 hOq7 hp7 hpw7 hC7=>?_
 simp only [List.length_append,List.length_cons,List.length_nil] at hOt7 hOq7
 have hSD7:SD7=[]:=by
  rw [←(zbe best3540).2,cut3540] at hp7
  exact hp7.eq_nil
 subst hSD7
 rw [←(zbe best3540).2,show zbt noT P2=[-1,-1] by decide] at hOt7
 have hl7:=hC7.len
 simp only [List.length_append,List.length_cons,List.length_nil] at hl7
 have k7:zG G7 G5.length=.cells false [.slice pt5 2 ct5,.slice q5 2 c5]:=hC7.cells ((Ext.refl.app).cells k6) (by simp)
 have k7X:=fun Z=>(Ext.refl.app (X:=Z)).cells k7
 have t7S:=hC7.sl (t6S.app _) fun _ _ _=>by simp
 have p7S:=hC7.sl (p6S.app _) fun _ _ _=>by simp
 have q7S:=hC7.sl (q6S.app _) fun _ _ _=>by simp
 have d7S:=hC7.sl (d6S.app _) fun _ _ _=>by simp
 have u7S:=hOt7.sl zIl
 clear hOt7 hOq7 hp7 hpw7 hC7 t6S p6S q6S s6S d6S hn6
 have hm1:∀Z mp lim Q,za0 E mp lim 23 [.slice q2 both2.length cq2,.slice (some ⟨G.length,0,none⟩) 2 2] (G7++Z) Q=Q (.bool true) (G7++Z):=fun Z mp lim Q=>(same_ok (ca:=cq2) (cb:=2) (q7S.app Z) (d7S.app Z) (by decide)).trans (by rw [decide_eq_true rfl])
 have hm2:∀Z mp lim Q,za0 E mp lim 23 [.slice q5 2 c5,.slice (some ⟨G.length,0,none⟩) 2 2] (G7++Z) Q=Q (.bool true) (G7++Z):=fun Z mp lim Q=>(same_ok (ca:=c5) (cb:=2) (p7S.app Z) (d7S.app Z) (by decide)).trans (by rw [decide_eq_true rfl])
 refine zRp ?_
 simp only [n7,r7,f1,zSa,show H.length≤G7.length by omega,hm1,hm2,k7X,SB,seval,zCa,aOp,zB,aUn,reduceCtorEq,zFr,place,zTu,zRe]
 rw [show za0 E false H.length 24 [.slice pt5 2 ct5,.slice (some ⟨G7.length+1,0,none⟩) 2 2] (G7++[Blk.cells false [.slice pt7 P2.length ct7,.slice q7 0 c7],Blk.cells false [.int .i64 0,.int .i64 (-1)]]) _=_ from sameints_ok (a:=[0,-1]) (b:=[0,-1]) (ca:=ct5) (cb:=2) (t7S.app _) (Sl.row (ro:=false) zIl zHw) (by decide),decide_eq_true rfl]
 simp only [n7,r7,f1,zSa,show H.length≤G7.length by omega,hm2,k7X,SB,seval,zCa,aOp,zB,aUn,reduceCtorEq,zFr,place,zTu,zRe]
 rw [show za0 E false H.length 24 [.slice pt7 P2.length ct7,.slice (some ⟨G7.length+2,0,none⟩) 2 2] (G7++[Blk.cells false [.slice pt7 P2.length ct7,.slice q7 0 c7],Blk.cells false [.int .i64 0,.int .i64 (-1)],Blk.cells false [.int .i64 (-1),.int .i64 (-1)]]) _=_ from sameints_ok (a:=[-1,-1]) (b:=[-1,-1]) (ca:=ct7) (cb:=2) (u7S.app _) (Sl.row (ro:=false) zIl (zHw (j:=2))) (by decide),decide_eq_true rfl]
 simp only [n7,r7,f1,zSa,show H.length≤G7.length by omega,k7X,SB,seval,zCa,aOp,zB,aUn,reduceCtorEq,zFr,place,zTu,zRe]
def upG (l:Leg):Leg:={ l with grams:=max 1 l.grams }
def upL (L:List Leg) (j:Nat):List Leg:=(L.take j).map upG++L.drop j
theorem zcm {L:List Leg} {j:Nat}:(upL L j).length=L.length:=by
 unfold upL;simp;omega
theorem upL_gt {L:List Leg} {j i:Nat} (h:i<L.length):gt (upL L j) i=if i<j then upG (gt L i) else gt L i:=by
 rw [zGl (by rw [zcm];exact h),zGl h]
 unfold upL
 by_cases hi:i<j
 ·rw [if_pos hi,List.getElem_append_left (by simp;omega)];simp
 ·rw [if_neg hi,List.getElem_append_right (by simp;omega),List.getElem_drop]
  congr 1
  simp;omega
theorem upL_set {L:List Leg} {j:Nat} (h:j<L.length):(upL L j).set j (upG (gt L j))=upL L (j+1):=by
 refine List.ext_getElem (by rw [List.length_set,zcm,zcm]) fun i h1 h2=>?_
 rw [zcm] at h2
 have e1:((upL L j).set j (upG (gt L j)))[i]=gt ((upL L j).set j (upG (gt L j))) i:=(zGl h1).symm
 have e2:(upL L (j+1))[i]'(by rw [zcm];exact h2)=gt (upL L (j+1)) i:=(zGl (by rw [zcm];exact h2)).symm
 rw [e1,e2,Flow.gt_set (by rw [zcm];exact h),upL_gt h2,upL_gt h2]
 by_cases hi:i=j
 ·rw [if_pos hi,if_pos (by omega),hi]
 ·rw [if_neg hi]
  by_cases hlt:i<j
  ·rw [if_pos hlt,if_pos (by omega)]
  ·rw [if_neg hlt,if_neg (by omega)]
theorem upG_fine {l:Leg} (h:Fine l):Fine (upG l):=by
 unfold Fine at h⊢
 unfold upG
 simp only
 omega
theorem upL_valid {P:List Int} {L:List Leg} (h:za6 P L=0):∀j,j≤L.length→za6 P (upL L j)=0
 | 0,_=>by unfold upL;simpa using h
 | j+1,hj=>by
   have ih:=upL_valid h j (by omega)
   have hF:=(ze1 h).fine _ (zag (l:=L) (i:=j) (by omega))
   have e:gt (upL L j) j=gt L j:=by rw [upL_gt (by omega),if_neg (by omega)]
   rw [←upL_set (by omega)]
   exact valid_set ih (by rw [zcm];omega) (upG_fine hF) (by rw [e];rfl) (by rw [e];rfl) (by rw [e];rfl)
theorem upL_all {L:List Leg} (hF:∀l∈L,Fine l):∀l∈upL L L.length,Fine l∧1≤l.grams:=fun l hl=>by
 unfold upL at hl
 rw [List.take_length,List.drop_length,List.append_nil] at hl
 obtain ⟨x,hx,rfl⟩:=List.mem_map.1 hl
 refine ⟨upG_fine (hF x hx), ?_⟩
 show 1≤max 1 x.grams
 omega
structure BO (fr:Nat→Value) (v1 v2 v3 v4 v5 v11:Value):Prop where
 f1:fr 1=v1
 f2:fr 2=v2
 f3:fr 3=v3
 f4:fr 4=v4
 f5:fr 5=v5
 f11:fr 11=v11
theorem up_loop [OB] {lim M B np cp cl:Nat} {v1 v2 v3 v4 v5:Value} {pp pl:Option Addr} {L:List Leg} {G:zH} {fr:Nat→Value} {K:List zAi} {Q:Value→zH→Prop}
  (hf:BO fr v1 v2 v3 v4 v5 (.pointer (some ⟨B,0,none⟩))) (f12:fr 12=.int .i64 0) (hO:Own M G encL 8 pl cl L) (hl:L.length<2 ^ 38) (hlM:lim≤M) (hMB:M≤B) (hB:zG G B=.cells false (netV pp np cp pl L.length cl)) (hne:∀a,pl=some a→a.block≠B)
  (hR:∀fr' G',BO fr' v1 v2 v3 v4 v5 (.pointer (some ⟨B,0,none⟩))→Own M G' encL 8 pl cl (upL L L.length)→zG G' B=.cells false (netV pp np cp pl L.length cl)→Chg (opB pl) G G'→Ret E a5 lim K fr' G' Q) :
  Ret E a5 lim (.code (.loop l5_2)::.inBlock 0::K) fr G Q:=by
 have e0:upL L 0=L:=by unfold upL;simp
 refine zRr (fun j=>L.length-j) (fun j fr2 G'=>j≤L.length∧BO fr2 v1 v2 v3 v4 v5 (.pointer (some ⟨B,0,none⟩))∧fr2 12=.int .i64 (j:Int)∧Own M G' encL 8 pl cl (upL L j)∧zG G' B=.cells false (netV pp np cp pl L.length cl)∧Chg (opB pl) G G') 0 ⟨Nat.zero_le _,hf,f12,by rw [e0];exact hO,hB,Chg.refl⟩ ?_
 intro j fr2 G' ⟨hj,⟨q1,q2,q3,q4,q5,q11⟩,q12,hO',hB',hC⟩ hN
 rw [zRc l5_2.eq_1]
 refine zRp ?_
 have kB:=fun Z=>(Ext.refl.app (X:=Z)).cells hB'
 by_cases hlt:j<L.length
 case neg=>
  obtain rfl:j=L.length:=by omega
  simp only [n5,r5,q1,q2,q3,q4,q5,q11,q12,kB,zNl,zN0,zN1,SB,seval,zCa,aOp,zB,aUn,reduceCtorEq,zFr,place,zTu,zRe]
  exact hR _ _ ⟨(by exact q1),by exact q2,by exact q3,by exact q4,by exact q5,by exact q11⟩ (hO'.app _) ((Ext.refl.app).cells hB') hC.app
 rcases hO' with ⟨h0,_,_⟩ | ⟨R,rfl,rfl,hS,hRl⟩
 ·have:=congrArg List.length h0
  rw [zcm,List.length_nil] at this;omega
 have hgj:gt (upL L j) j=gt L j:=by rw [upL_gt hlt,if_neg (by omega)]
 have hjl:j<(upL L j).length:=by rw [zcm];exact hlt
 obtain ⟨G2,e2,k2,m2⟩:=field_mut (lim:=lim) (i:=j) (j:=6) zLl hS (by omega) hjl (by decide) (v:=.int .i64 (max 1 (gt L j).grams)) (upG (gt L j)) (by rw [hgj];rfl)
 rw [upL_set hlt] at k2
 have lL6:∀Z,AM.loadCell (G'++Z) ((elt (some ⟨R,0,none⟩) 8 j).add 6)=some (.int .i64 (gt L j).grams):=fun Z=>by
  have:=((Sl.row (ro:=false) zLl hS).app Z).loadCell zLl hjl (j:=6) (by decide)
  rw [hgj] at this;exact this
 have xL:∀(c:Nat) (kk:IntKind) (H1:zH),idxK 8 (.slice (some ⟨R,0,none⟩) L.length c) (.int kk (j:Int)) H1=some (.pointer (some (elt (some ⟨R,0,none⟩) 8 j)),H1):=by
  have:=ix_N (Sl.row (ro:=false) zLl hS:Sl G' encL 8 (some ⟨R,0,none⟩) (upL L j)) hjl rfl
  rw [zcm] at this;exact this
 have hneR:B≠R:=fun e=>hne _ rfl e.symm
 have w1:IntKind.i64.wrap ((j:Int)+1)=((j+1:Nat):Int):=zWn (by omega)
 simp only [n5,r5,q1,q2,q3,q4,q5,q11,q12,kB,zNl,zN0,zN1,hlt,xL,lL6,e2,max_v,w1,SB,seval,zCa,aOp,zB,aUn,reduceCtorEq,zFr,place,zTu,zRe]
 exact hN (j+1) _ _ ⟨by omega,⟨(by exact q1),by exact q2,by exact q3,by exact q4,by exact q5,by exact q11⟩,(by rfl),(Own.new k2 hRl).app _,(Ext.refl.app).cells (m2.cells hB' hneR),(hC.mut m2 (.inl (zOm.2 ⟨_,rfl,rfl⟩))).app⟩ (by omega)
end Go.Proofs.YtohnaffmcjbpoaaGreat.Fn

namespace Go.Proofs.YtohnaffmcjbpoaaGreat.Fn
open Go.AM Go.AM.Sym Go.Net
def Own1 {α:Type} (lim:Nat) (G:zH) (enc:α→List Value) (e:Nat) (p:Option Addr) (cap:Nat) (l:List α):Prop:=
 Own lim G enc e p cap l∨∃R,p=some ⟨R,0,none⟩∧cap=l.length∧cap<2 ^ 62∧zG G R=.cells false (l.flatMap enc)∧lim≤R
section
variable {α:Type} {lim e cap:Nat} {G:zH} {enc:α→List Value} {p:Option Addr} {l:List α}
theorem Own1.sl (h:Own1 lim G enc e p cap l) (he:∀x,(enc x).length=e):Sl G enc e p l:=by
 rcases h with h | ⟨R,rfl,_,_,h,_⟩
 ·exact h.sl he
 ·exact Sl.row he h
theorem Own1.block (h:Own1 lim G enc e p cap l) {a:Addr} (ha:p=some a):lim≤a.block∧a.block<G.length:=by
 rcases h with h | ⟨R,rfl,_,_,h,hl⟩
 ·exact h.block ha
 ·cases ha;exact ⟨hl,zHa h⟩
theorem Own1.chg {A:List Nat} {H':zH} (h:Own1 lim G enc e p cap l) (hc:Chg A G H') (hp:∀a,p=some a→a.block∉A):Own1 lim H' enc e p cap l:=by
 rcases h with h | ⟨R,rfl,h1,h2,h3,h4⟩
 ·exact .inl (h.chg hc hp)
 ·exact .inr ⟨R,rfl,h1,h2,hc.cells h3 (hp _ rfl),h4⟩
theorem Own1.step {lim' bytes:Nat} (h:Own1 lim G enc e p cap l) (hll:lim'≤lim) (he:∀x,(enc x).length=e) (he0:e≠0) (x:α) (hb:(l.length+1)*bytes≤za3) (hn:l.length+1<2 ^ 61) (hlG:lim≤G.length)
  (X:zH) (b k:Nat) (hx:zG (G++X) b=.cells false (enc x)) :
  ∃G2,zAa lim' none e bytes false (.slice p l.length cap) (.slice (some ⟨b,0,none⟩) 1 k) (G++X)=some (.slice (some ⟨G.length+X.length,0,none⟩) (l.length+1) (loose e),G2++[])∧
   Own lim (G2++[]) enc e (some ⟨G.length+X.length,0,none⟩) (loose e) (l++[x])∧(∀A H0,H0.length≤lim→Chg A H0 G→Chg A H0 (G2++[]))∧(∀j,j<G.length→(∀a,p=some a→j≠a.block)→zG (G2++[]) j=zG G j)∧G2.length=G.length+X.length+1∧
   (∀j,j<X.length→zG (G2++[]) (G.length+j)=X.getD j .dead):=by
 rcases h with h | ⟨R,rfl,h1,h2,h3,h4⟩
 ·exact h.step hll he he0 x hb hn hlG X b k hx
 ·have hR:=zHa h3
  have hnew:zG ((G++(X++[.cells false ((l++[x]).flatMap enc)]))++[]) (G.length+X.length)=.cells false ((l++[x]).flatMap enc):=by
   rw [List.append_nil,zHw]
   rw [show X.length=X.length+0 from rfl,zc0];rfl
  refine ⟨G++(X++[.cells false ((l++[x]).flatMap enc)]), ?_,Own.new hnew (by omega),fun A H0 _ hc=>(hc.app).app,fun j hj _=>?_,by simp;omega,fun j hj=>?_⟩
  ·have hR':zG (G++X) R=.cells false (l.flatMap enc):=by rw [zHo hR];exact h3
   have hold:AM.loadCells (G++X) ⟨R,0,none⟩ (l.length*e)=some (l.flatMap enc):=by
    simp only [za2,hR',Nat.zero_add,zaa he,Nat.le_refl,if_true,List.drop_zero]
    rw [List.take_of_length_le (by rw [zaa he];exact Nat.le_refl _)]
   have hl:AM.loadCells (G++X) ⟨b,0,none⟩ (1*e)=some (enc x):=by
    simp only [za2,hx,Nat.zero_add,Nat.one_mul,he,Nat.le_refl,if_true,List.drop_zero]
    rw [List.take_of_length_le (by rw [he];exact Nat.le_refl _)]
   subst h1
   have hne:¬l.length=loose e:=by unfold loose;omega
   simp only [zAa,firstCells,lenOf,hl,hold,if_false,Bool.false_eq_true,hne,Nat.one_ne_zero]
   rw [if_neg (by omega),if_pos h2,if_neg (by omega)]
   simp [place]
  ·rw [List.append_nil,zHo hj]
  ·rw [List.append_nil,zHw,List.getD_eq_getElem?_getD,List.getElem?_append_left hj,List.getD_eq_getElem?_getD]
end
def i64 (n:Int):Value:=.int .i64 n
def T50 (T:List Int):List Int:=if T.length=50 then T else List.replicate 50 0
theorem T50_eq {T:List Int} (h:T.length=50):T50 T=T:=if_pos h
theorem T50_len (T:List Int):(T50 T).length=50:=by
 unfold T50;split
 ·assumption
 ·simp
def encT (T:List Int):List Value:=(T50 T).map i64
theorem zad (T:List Int):(encT T).length=50:=by simp [encT,T50_len]
theorem encT_eq {T:List Int} (h:T.length=50):encT T=T.map i64:=by rw [encT,T50_eq h]
theorem encT_get {T:List Int} (h:T.length=50) {j:Nat} (hj:j<50):(encT T)[j]? = some (.int .i64 (T.getD j (-1))):=by
 rw [encT_eq h,List.getElem?_map,List.getD_eq_getElem?_getD,List.getElem?_eq_getElem (by omega)];rfl
theorem encT_set {T:List Int} (h:T.length=50) {j:Nat} {v:Int}:(encT T).set j (.int .i64 v)=encT (T.set j v):=by
 rw [encT_eq h,encT_eq (by simpa using h),List.map_set];rfl
theorem i64_inj {a b:List Int} (h:a.map i64=b.map i64):a=b:=by
 induction a generalizing b with
 | nil=>cases b with
   | nil=>rfl
   | cons y b=>cases h
 | cons x a ih=>cases b with
   | nil=>cases h
   | cons y b=>
     simp only [List.map_cons,List.cons.injEq,i64,Value.int.injEq,true_and] at h
     rw [h.1,ih h.2]
theorem encT_inj {a b:List Int} (ha:a.length=50) (hb:b.length=50) (h:encT a=encT b):a=b:=by
 rw [encT_eq ha,encT_eq hb] at h;exact i64_inj h
theorem flat_ints {l:List Int}:flat 4 (.agg (l.map i64).toArray)=true:=by
 simp [flat,i64,atom]
theorem encT_eqv {a b:List Int} (ha:a.length=50) (hb:b.length=50):aEq (.agg (List.replicate 50 (.int .i64))) (.agg (encT a).toArray) (.agg (encT b).toArray)=some (decide (a=b)):=by
 obtain ⟨t,h1,h2⟩:=cellsEq_dec (.int .i64) 50 (encT a) (encT b) (zad a) (zad b) (by
  intro x hx y hy
  rw [encT_eq ha] at hx
  rw [encT_eq hb] at hy
  obtain ⟨n,_,rfl⟩:=List.mem_map.1 hx
  obtain ⟨m,_,rfl⟩:=List.mem_map.1 hy
  exact ⟨n == m,by simp [zcr,i64],by simp [i64]⟩)
 show zCe _ (encT a) (encT b)=_
 rw [h1]
 congr 1
 rw [Bool.eq_iff_iff,h2,decide_eq_true_eq]
 exact ⟨fun h=>encT_inj ha hb h,fun h=>by rw [h]⟩
theorem zz50:[Value.int .i64 0,Value.int .i64 0,Value.int .i64 0,Value.int .i64 0,Value.int .i64 0,Value.int .i64 0,Value.int .i64 0,Value.int .i64 0,Value.int .i64 0,Value.int .i64 0,Value.int .i64 0,Value.int .i64 0,Value.int .i64 0,Value.int .i64 0,Value.int .i64 0,Value.int .i64 0,Value.int .i64 0,Value.int .i64 0,Value.int .i64 0,Value.int .i64 0,Value.int .i64 0,Value.int .i64 0,Value.int .i64 0,Value.int .i64 0,Value.int .i64 0,Value.int .i64 0,Value.int .i64 0,Value.int .i64 0,Value.int .i64 0,Value.int .i64 0,Value.int .i64 0,Value.int .i64 0,Value.int .i64 0,Value.int .i64 0,Value.int .i64 0,Value.int .i64 0,Value.int .i64 0,Value.int .i64 0,Value.int .i64 0,Value.int .i64 0,Value.int .i64 0,Value.int .i64 0,Value.int .i64 0,Value.int .i64 0,Value.int .i64 0,Value.int .i64 0,Value.int .i64 0,Value.int .i64 0,Value.int .i64 0,Value.int .i64 0]=List.replicate 50 (Value.int .i64 0):=rfl
theorem kk50:[KK.int .i64,KK.int .i64,KK.int .i64,KK.int .i64,KK.int .i64,KK.int .i64,KK.int .i64,KK.int .i64,KK.int .i64,KK.int .i64,KK.int .i64,KK.int .i64,KK.int .i64,KK.int .i64,KK.int .i64,KK.int .i64,KK.int .i64,KK.int .i64,KK.int .i64,KK.int .i64,KK.int .i64,KK.int .i64,KK.int .i64,KK.int .i64,KK.int .i64,KK.int .i64,KK.int .i64,KK.int .i64,KK.int .i64,KK.int .i64,KK.int .i64,KK.int .i64,KK.int .i64,KK.int .i64,KK.int .i64,KK.int .i64,KK.int .i64,KK.int .i64,KK.int .i64,KK.int .i64,KK.int .i64,KK.int .i64,KK.int .i64,KK.int .i64,KK.int .i64,KK.int .i64,KK.int .i64,KK.int .i64,KK.int .i64,KK.int .i64]=List.replicate 50 (KK.int .i64):=rfl
theorem one_ok [OB] {mp:Bool} {lim i:Nat} {t:Int} {H:zH} {Q:Value→zH→Prop} (hi:i<50):za0 E mp lim 73 [.int .i64 (i:Int),.int .i64 t] H Q=Q (.agg (encT (oneT 50 i t)).toArray) H:=by
 refine pc (by decide) e73 rfl (by rw [encT_eq oneT_len];exact flat_ints) ?_
 rw [b73,c73]
 simp only [n73,r73,zz50,SB,Nat.reduceLT,zCa,aOp,Nat.reduceEqDiff,zB,aUn,reduceCtorEq,zFr,place,zTu,Nat.reduceAdd,Nat.reduceLeDiff,zRe,Int.reduceEq,Int.reduceLT,Int.reduceLE]
 refine zRr (fun k=>50-k) (fun k fr G=>k≤50∧fr 0=.int .i64 (i:Int)∧fr 1=.int .i64 t∧fr 4=.pointer (some ⟨H.length,0,none⟩)∧fr 5=.pointer (some ⟨H.length+1,0,none⟩)∧fr 7=.int .i64 (k:Int)∧
  ∃T:List Int,T.length=50∧(∀j,j<k→T[j]? = some (-1))∧G=H++[.cells false (List.replicate 50 (Value.int .i64 0)),.cells false (encT T)]) 0
  ⟨Nat.zero_le _,(by rfl),(by rfl),(by rfl),(by rfl),by rfl,List.replicate 50 0,by simp,fun j hj=>by omega,rfl⟩ ?_
 rintro k fr G ⟨hk,h0,h1,h4,h5,h7,T,hT,hall,rfl⟩ hN
 rw [zRc l73_1.eq_1]
 by_cases hlt:k<50
 ·have hk1:(k:Int)<50:=by omega
  have hk0:(0:Int)≤(k:Int):=by omega
  have hw1:IntKind.i64.wrap ((k:Int)+1)=((k+1:Nat):Int):=zWn (by omega)
  simp only [n73,r73,h0,h1,h4,h5,h7,hk0,hk1,hw1,Nat.mul_one,zad,encT_set hT,show k+1≤50 by omega,SB,Nat.reduceLT,zCa,aOp,Nat.reduceEqDiff,zB,aUn,reduceCtorEq,zFr,place,zTu,Nat.reduceAdd,Nat.reduceLeDiff,zRe,Int.reduceEq,Int.reduceLT,Int.reduceLE]
  refine hN (k+1) _ _ ⟨by omega,by exact h0,by exact h1,by exact h4,by exact h5,(by rfl),T.set k (-1),by simpa using hT,fun j hj=>?_,rfl⟩ (by omega)
  by_cases hj2:k=j
  ·subst hj2;rw [List.getElem?_set_self (by omega)]
  ·rw [List.getElem?_set_ne hj2];exact hall j (by omega)
 ·obtain rfl:k=50:=by omega
  have hTT:T=List.replicate 50 (-1):=by
   apply List.ext_getElem? ;intro j
   by_cases hj:j<50
   ·rw [hall j hj,List.getElem?_replicate,if_pos hj]
   ·rw [List.getElem?_eq_none (by omega),List.getElem?_eq_none (by simp;omega)]
  subst hTT
  have hk1:(i:Int)<50:=by omega
  have hk0:(0:Int)≤(i:Int):=by omega
  simp only [n73,r73,h0,h1,h4,h5,h7,hk0,hk1,Nat.mul_one,zad,encT_set hT,show i+1≤50 by omega,zTa,zSa,List.length_replicate,SB,Nat.reduceLT,zCa,aOp,Nat.reduceEqDiff,zB,aUn,reduceCtorEq,zFr,place,zTu,Nat.reduceAdd,Nat.reduceLeDiff,zRe,Int.reduceEq,Int.reduceLT,Int.reduceLE]
  rfl
def okT (T:List Int):Prop:=T.length=50∧∀j,-1≤T.getD j (-1)∧T.getD j (-1)≤za1
theorem okT_one {i:Nat} {t:Int} (hi:i<50) (h:-1≤t∧t≤za1):okT (oneT 50 i t):=⟨oneT_len,fun j=>by
 rw [oneT_get hi];unfold za1 at *;split<;>omega⟩
theorem okT_set {T:List Int} {i:Nat} {v:Int} (h:okT T) (hv:-1≤v∧v≤za1):okT (T.set i v):=by
 refine ⟨by simpa using h.1,fun j=>?_⟩
 by_cases hi:i<T.length
 ·rw [getD_set hi];split
  ·exact hv
  ·exact h.2 j
 ·rw [List.set_eq_of_length_le (by omega)];exact h.2 j
def rndF (u:List Int→List Int→Leg→List Int) (L:List Leg) (first:List Int):Nat→List Int
 | 0=>first
 | k+1=>L.foldl (u (rndF u L first k)) (rndF u L first k)
theorem foldl_take {α β:Type} [Inhabited α] {f:β→α→β} {L:List α} {b:β} {i:Nat} (h:i<L.length):(L.take (i+1)).foldl f b=f ((L.take i).foldl f b) (gt L i):=by
 rw [zb1 h,List.foldl_append];rfl
def UseOk [OB] (H:zH) (lim:Nat) (g:FuncId) (c1 c2:Value) (u:List Int→List Int→Leg→List Int) (L:List Leg):Prop:=
 ∀(G:zH) (A:Nat) (bef aft:List Int) (l:Leg) (Q:Value→zH→Prop),l∈L→okT bef→okT aft→Chg [] H G→lim≤A→H.length≤A→lim≤G.length→zG G A=.cells false (encT aft)→
  okT (u bef aft l)∧((∀G',Chg [A] G G'→zG G' A=.cells false (encT (u bef aft l))→Q (.tuple #[]) G')→za0 E false lim g [.agg (encL l).toArray,.agg (encT bef).toArray,.pointer (some ⟨A,0,none⟩),c1,c2] G Q)
theorem rounds_inner [OB] {lim:Nat} {g:FuncId} {c1 c2:Value} {u:List Int→List Int→Leg→List Int} {pl:Option Addr} {L:List Leg} {cl:Nat} {H G:zH} {fr:Nat→Value} {K:List zAi} {R:Value→zH→Prop} {bef:List Int} {A8 A9:Nat}
  (hu:UseOk H lim g c1 c2 u L) (hL:Sl H encL 8 pl L) (hnL:L.length<2 ^ 62) (hlim:lim≤H.length) (hb:okT bef) (hE:Chg [] H G) (hA8:H.length≤A8) (hA9:H.length≤A9) (hne:A8≠A9) (h8:zG G A8=.cells false (encT bef)) (h9:zG G A9=.cells false (encT bef))
  (f2:fr 2=.func (.func g) #[] #[c1,c2]) (f8:fr 8=.pointer (some ⟨A8,0,none⟩)) (f9:fr 9=.pointer (some ⟨A9,0,none⟩)) (f21:fr 21=.slice pl L.length cl) (f22:fr 22=.int .i64 (L.length:Int)) (f23:fr 23=.int .i64 0)
  (hR:∀fr' G',okT (L.foldl (u bef) bef)→Chg [A9] G G'→zG G' A9=.cells false (encT (L.foldl (u bef) bef))→fr' 1=fr 1→fr' 2=fr 2→fr' 7=fr 7→fr' 8=fr 8→fr' 9=fr 9→Ret E a72 lim K fr' (G'++[]) R) :
  Ret E a72 lim (.code (.loop l72_1)::.inBlock 2::K) fr G R:=by
 refine zRr (fun i=>L.length-i) (fun i fr' G'=>i≤L.length∧fr' 1=fr 1∧fr' 7=fr 7∧fr' 2=.func (.func g) #[] #[c1,c2]∧fr' 8=.pointer (some ⟨A8,0,none⟩)∧fr' 9=.pointer (some ⟨A9,0,none⟩)∧fr' 21=.slice pl L.length cl∧fr' 22=.int .i64 (L.length:Int)∧fr' 23=.int .i64 (i:Int)∧
  Chg [A9] G G'∧okT ((L.take i).foldl (u bef) bef)∧zG G' A9=.cells false (encT ((L.take i).foldl (u bef) bef))) 0
  ⟨Nat.zero_le _,rfl,rfl,f2,f8,f9,f21,f22,f23,Chg.refl,hb,h9⟩ ?_
 intro i fr' G' ⟨hi,g1,g7,g2,g8,g9,g21,g22,g23,hC,ha,h9'⟩ hN
 have hEG:Chg [] H G':=hE.trans' hC fun j h1 h2=>by simp only [List.mem_singleton] at h1;omega
 have hl:=hEG.len
 rw [zRc l72_1.eq_1]
 refine zRp ?_
 by_cases hlt:i<L.length
 ·have hsl:=hEG.ext.sl hL
  have hld:=fun X=>(hsl.app X).loadCells zLl hlt
  have hidx:=fun c (k:IntKind) (H1:zH)=>hsl.idx (c:=c) (k:=k) (H1:=H1) hlt
  have hw1:IntKind.i64.wrap ((i:Int)+1)=((i+1:Nat):Int):=zWn (by omega)
  have h8':=hC.cells h8 (by simpa using hne)
  have h8X:=fun X=>(Ext.refl.app (X:=X)).cells h8'
  have hlG:lim≤G'.length:=by omega
  simp only [n72,r72,g2,g8,g9,g21,g22,g23,hlt,hidx,hld,hw1,zLl,zL0,zL1,zL2,zL3,zL4,zL5,zL6,zL7,zTa,hlG,zSa,h8X,zad,pure_any,SB,Nat.reduceLT,zCa,aOp,Nat.reduceEqDiff,zB,aUn,reduceCtorEq,zFr,place,zTu,Nat.reduceAdd,Nat.reduceLeDiff,zRe,Int.reduceEq,Int.reduceLT,Int.reduceLE]
  have hal:=zHa h9'
  obtain ⟨hok,hcall⟩:=hu (G'++[.cells false (encL (gt L i))]) A9 bef ((L.take i).foldl (u bef) bef) (gt L i) _ (zag hlt) hb ha (hEG.app) (by omega) hA9 (by simp;omega) ((Ext.refl.app).cells h9')
  refine hcall fun G2 hC2 h92=>?_
  refine zRp ?_
  simp only [n72,r72,g2,g8,g9,g21,g22,g23,hw1,SB,Nat.reduceLT,zCa,aOp,Nat.reduceEqDiff,zB,aUn,reduceCtorEq,zFr,place,zTu,Nat.reduceAdd,Nat.reduceLeDiff,zRe,Int.reduceEq,Int.reduceLT,Int.reduceLE]
  refine hN (i+1) _ _ ⟨by omega,by rw [←g1];exact (by rfl),by rw [←g7];exact (by rfl),by exact g2,by exact g8,by exact g9,by exact g21,by exact g22,(by rfl), ?_, ?_, ?_⟩ (by omega)
  ·rw [List.append_nil]
   exact hC.trans hC2.pre
  ·rw [foldl_take hlt];exact hok
  ·rw [List.append_nil,foldl_take hlt];exact h92
 ·obtain rfl:i=L.length:=by omega
  rw [List.take_length] at ha h9'
  simp only [n72,r72,g2,g8,g9,g21,g22,g23,hlt,SB,Nat.reduceLT,zCa,aOp,Nat.reduceEqDiff,zB,aUn,reduceCtorEq,zFr,place,zTu,Nat.reduceAdd,Nat.reduceLeDiff,zRe,Int.reduceEq,Int.reduceLT,Int.reduceLE]
  exact hR _ _ ha hC h9' (by rw [←g1];exact (by rfl)) (by rw [f2];exact (by exact g2)) (by rw [←g7];exact (by rfl)) (by rw [f8];exact (by exact g8)) (by rw [f9];exact (by exact g9))
theorem rounds_ok [OB] {lim n0:Nat} {g:FuncId} {c1 c2:Value} {u:List Int→List Int→Leg→List Int} {first:List Int} {pl:Option Addr} {L:List Leg} {cl:Nat} {H:zH} {Q:Value→zH→Prop}
  (hu:UseOk H lim g c1 c2 u L) (hf:okT first) (hL:Sl H encL 8 pl L) (hnL:L.length<2 ^ 62) (hlim:lim≤H.length) (hfix:rndF u L first (n0+1)=rndF u L first n0) (hno:∀k,k<n0→rndF u L first (k+1)≠rndF u L first k) (hn0:n0<80000000000)
  (hQ:∀H' p cap,Chg [] H H'→Own1 H.length H' encT 50 p cap ((List.range (n0+1)).map (rndF u L first))→Q (.slice p (n0+1) cap) H') :
  za0 E false lim 72 [.agg (encT first).toArray,.slice pl L.length cl,.func (.func g) #[] #[c1,c2]] H Q:=by
 refine zbq (by decide) e72 rfl ?_
 rw [b72,c72]
 simp only [n72,r72,zz50,zad,zTa,zSa,List.length_replicate,SB,Nat.reduceLT,zCa,aOp,Nat.reduceEqDiff,zB,aUn,reduceCtorEq,zFr,place,zTu,Nat.reduceAdd,Nat.reduceLeDiff,zRe,Int.reduceEq,Int.reduceLT,Int.reduceLE]
 refine zRr (fun s:Nat×Option Addr×Nat=>n0+1-s.1) (fun s fr G=>s.1≤n0∧fr 1=.slice pl L.length cl∧fr 2=.func (.func g) #[] #[c1,c2]∧fr 7=.slice s.2.1 (s.1+1) s.2.2∧Chg [] H G∧okT (rndF u L first s.1)∧Own1 H.length G encT 50 s.2.1 s.2.2 ((List.range (s.1+1)).map (rndF u L first))) (0,some ⟨H.length+1,0,none⟩,1)
  ⟨Nat.zero_le _,(by rfl),(by rfl),by rfl,Chg.refl.app,hf,.inr ⟨H.length+1,rfl,rfl,by show (1:Nat)<2 ^ 62;decide,by rw [zHw];simp [rndF],by omega⟩⟩ ?_
 rintro ⟨k,p,cap⟩ fr G ⟨hk,f1,f2,f7,hE,hok,hO⟩ hN
 simp only at hk f7 hok hO
 have hl:=hE.len
 rw [zRc l72_2.eq_1]
 refine zRp ?_
 have hlen:((List.range (k+1)).map (rndF u L first)).length=k+1:=by simp
 have hgt:gt ((List.range (k+1)).map (rndF u L first)) k=rndF u L first k:=by
  rw [zGl (by rw [hlen];omega)];simp
 have hS:=hO.sl zad
 have hld:=fun X=>(hS.app X).loadCells zad (i:=k) (by rw [hlen];omega)
 have hidx:=fun c (kk:IntKind) (H1:zH)=>hS.idx (c:=c) (k:=kk) (H1:=H1) (i:=k) (by rw [hlen];omega)
 rw [hlen] at hidx
 rw [hgt] at hld
 have hw1:IntKind.i64.wrap (((k+1:Nat):Int)-1)=(k:Int):=by rw [zWi (by omega) (by omega)];omega
 have hlG:lim≤G.length:=by omega
 simp only [n72,r72,f1,f2,f7,zz50,zad,zTa,zSa,List.length_replicate,hw1,hidx,hld,hlG,show lim≤G.length+1 by omega,SB,Nat.reduceLT,zCa,aOp,Nat.reduceEqDiff,zB,aUn,reduceCtorEq,zFr,place,zTu,Nat.reduceAdd,Nat.reduceLeDiff,zRe,Int.reduceEq,Int.reduceLT,Int.reduceLE]
 refine rounds_inner (cl:=cl) (A8:=G.length) (A9:=G.length+1) hu hL hnL hlim hok (hE.app) (by omega) (by omega) (by omega) zHn zHw (by exact f2) (by rfl) (by rfl) (by rfl) (by rfl) (by rfl) fun fr' G' hok' hC h9 k1 k2 k7 k8 k9=>?_
 have k1':fr' 1=.slice pl L.length cl:=k1.trans (by exact f1)
 have k2':fr' 2=.func (.func g) #[] #[c1,c2]:=k2.trans (by exact f2)
 have k7':fr' 7=.slice p (k+1) cap:=k7.trans (by exact f7)
 have k8':fr' 8=.pointer (some ⟨G.length,0,none⟩):=k8.trans (by rfl)
 have k9':fr' 9=.pointer (some ⟨G.length+1,0,none⟩):=k9.trans (by rfl)
 have h8:zG G' G.length=.cells false (encT (rndF u L first k)):=hC.cells zHn (by simp)
 have h8X:=fun X=>(Ext.refl.app (X:=X)).cells h8
 have h9X:=fun X=>(Ext.refl.app (X:=X)).cells h9
 have hC':Chg [] G G':=hC.pre.mono fun j hj h=>by simp only [List.mem_singleton] at h;omega
 have hl2:=hC'.len
 change okT (rndF u L first (k+1)) at hok'
 change zG G' (G.length+1)=.cells false (encT (rndF u L first (k+1))) at h9
 change ∀X,zG (G'++X) (G.length+1)=.cells false (encT (rndF u L first (k+1))) at h9X
 have heq:=encT_eqv hok'.1 hok.1
 by_cases hkn:k=n0
 ·subst hkn
  rw [decide_eq_true hfix] at heq
  simp only [n72,r72,k1',k2',k7',k8',k9',h8X,h9X,zad,zTa,kk50,heq,SB,Nat.reduceLT,zCa,aOp,Nat.reduceEqDiff,zB,aUn,reduceCtorEq,zFr,place,zTu,Nat.reduceAdd,Nat.reduceLeDiff,zRe,Int.reduceEq,Int.reduceLT,Int.reduceLE]
  exact hQ _ _ _ ((hE.trans hC').app) (hO.chg (hC'.app) (by simp))
 ·rw [decide_eq_false (p:=rndF u L first (k+1)=rndF u L first k) (hno k (by omega))] at heq
  have hO':=hO.chg hC' (by simp)
  obtain ⟨G3,e3,O3,C3,hold3,l3,_⟩:=hO'.step (lim':=lim) (bytes:=400) hlim zad (by decide) (rndF u L first (k+1)) (by rw [hlen];unfold za3;omega) (by rw [hlen];omega) (by omega) [.cells false (encT (rndF u L first (k+1)))] G'.length 1 zHn
  rw [hlen] at e3
  simp only [n72,r72,k1',k2',k7',k8',k9',h8X,h9X,zad,zTa,kk50,heq,zz50,zSa,List.length_replicate,e3,SB,Nat.reduceLT,zCa,aOp,Nat.reduceEqDiff,zB,aUn,reduceCtorEq,zFr,place,zTu,Nat.reduceAdd,Nat.reduceLeDiff,zRe,Int.reduceEq,Int.reduceLT,Int.reduceLE]
  refine hN (k+1,_,_) _ _ ⟨by omega,by exact k1',by exact k2',by rfl,C3 _ _ (Nat.le_refl _) (hE.trans hC'),hok',.inl ?_⟩ (by show n0+1-(k+1)<n0+1-k;omega)
  rw [List.range_succ,List.map_append]
  exact O3
theorem rest_at {F:Nat→List Int} {mu:List Int→Nat} (h:∀k,F (k+1)=F k∨mu (F (k+1))<mu (F k)):∃n,n≤mu (F 0)∧F (n+1)=F n∧∀k,k<n→F (k+1)≠F k:=by
 have key:∀m k,mu (F k)≤m→(∀j,j<k→F (j+1)≠F j)→∃n,n≤k+m∧F (n+1)=F n∧∀j,j<n→F (j+1)≠F j:=by
  intro m
  induction m with
  | zero=>
    intro k hm hj
    rcases h k with h1 | h1
    ·exact ⟨k,by omega,h1,hj⟩
    ·omega
  | succ m ih=>
    intro k hm hj
    by_cases h1:F (k+1)=F k
    ·exact ⟨k,by omega,h1,hj⟩
    ·rcases h k with h2 | h2
     ·exact absurd h2 h1
     ·obtain ⟨n,h3,h4⟩:=ih (k+1) (by omega) fun j hjk=>by
       rcases Nat.lt_or_ge j k with h5 | h5
       ·exact hj j h5
       ·obtain rfl:j=k:=by omega
        exact h1
      exact ⟨n,by omega,h4⟩
 obtain ⟨n,h1,h2⟩:=key (mu (F 0)) 0 (Nat.le_refl _) fun j hj=>by omega
 exact ⟨n,by omega,h2⟩
theorem rnd_arr {N:Nat} {pos:Int→Nat} {lim:Int} {L:List Leg} {p ready:Int} (k:Nat):rndF (useA pos lim) L (oneT N (pos p) ready) k=arrK N pos lim L p ready k:=by
 induction k with
 | zero=>rfl
 | succ k ih=>rw [rndF,arrK,stepA,ih]
theorem arr_within {P:List Int} {L:List Leg} {p ready lim:Int} (hn:NetOk 50 P L (posN P)) (hp:p∈P) (hr:0≤ready) (hl:ready≤lim):∀k,Within ready lim (arrK 50 (posN P) lim L p ready k)
 | 0=>by
   intro t ht
   rw [arrK,oneT] at ht
   rcases List.mem_or_eq_of_mem_set ht with h | rfl
   ·exact .inl (List.eq_of_mem_replicate h)
   ·exact .inr ⟨Int.le_refl _,hl⟩
 | k+1=>(stepA_mu (arr_within hn hp hr hl k) hr fun l hll=>⟨hn.fine l hll,by rw [arrK_len];exact hn.lt _ (hn.dst l hll)⟩).1
theorem arr_rest {P:List Int} {L:List Leg} {p ready lim:Int} (hn:NetOk 50 P L (posN P)) (hp:p∈P) (hr:0≤ready) (hl:ready≤lim):∃n,n≤50*((lim-ready).toNat+1)∧arrK 50 (posN P) lim L p ready (n+1)=arrK 50 (posN P) lim L p ready n∧∀k,k<n→arrK 50 (posN P) lim L p ready (k+1)≠arrK 50 (posN P) lim L p ready k:=by
 obtain ⟨n,h1,h2⟩:=rest_at (F:=arrK 50 (posN P) lim L p ready) (mu:=muA ready lim) fun k=>
  (stepA_mu (arr_within hn hp hr hl k) hr fun l hll=>⟨hn.fine l hll,by rw [arrK_len];exact hn.lt _ (hn.dst l hll)⟩).2
 refine ⟨n,Nat.le_trans h1 ?_,h2⟩
 have:=muA_le (arr_within hn hp hr hl 0)
 rw [arrK_len] at this
 exact this
def arrRL (P:List Int) (L:List Leg) (p ready:Int) (T:List Int):Prop:=T.length=P.length∧∀q∈P,IsArr L p ready q (T.getD (posN P q) (-1))
theorem arr_all {P:List Int} {L:List Leg} {p ready:Int} (hn:NetOk 50 P L (posN P)) (h50:P.length≤50) (hp:p∈P) (hr:0≤ready) {n:Nat} (hfix:arrK 50 (posN P) (ready+86400) L p ready (n+1)=arrK 50 (posN P) (ready+86400) L p ready n) :
  arrRL P L p ready ((arrK 50 (posN P) (ready+86400) L p ready n).take P.length):=by
 refine ⟨by rw [List.length_take,arrK_len];omega,fun q hq=>?_⟩
 have h1:=arrK_all hn hp hr (by omega) hfix q hq
 have h2:posN P q<P.length:=List.idxOf_lt_length_of_mem hq
 rw [List.getD_eq_getElem?_getD,List.getElem?_take,if_pos h2,←List.getD_eq_getElem?_getD]
 exact h1
theorem nextD_arr {l:Leg} {r a:Int} (hl:Fine l) (h:zct l r=some a):0≤a∧r≤a∧a+l.mins≤za1:=by
 obtain ⟨⟨d,_,hg,rfl⟩,h2,_⟩:=zca h
 unfold goes at hg
 simp only [Bool.and_eq_true,decide_eq_true_eq] at hg
 unfold Fine at hl
 omega
theorem arrive_use [OB] {lim B1 B2 R:Nat} {o1 o2:Bool} {P:List Int} {L:List Leg} {ready:Int} {H:zH} (hn:NetOk 50 P L (posN P)) (h1:zG H B1=.cells o1 [.map (some R)]) (h2:zG H B2=.cells o2 [.int .i64 ready]) (hm:zG H R=.map (posV P)) (hr:0≤ready) (hr2:ready≤za1) :
  UseOk H lim 70 (.pointer (some ⟨B1,0,none⟩)) (.pointer (some ⟨B2,0,none⟩)) (useA (posN P) (ready+86400)) L:=by
 intro G A bef aft l Q hl hb ha hE hlA hHA hlG hA
 have hf:=hn.fine l hl
 have i1:posN P l.frm<50:=hn.lt _ (hn.frm l hl)
 have i2:posN P l.dst<50:=hn.lt _ (hn.dst l hl)
 obtain ⟨j1,hj1⟩:=pos_yes (i:=0) (hn.frm l hl)
 obtain ⟨j2,hj2⟩:=pos_yes (i:=0) (hn.dst l hl)
 change findKey _ _ _=some (some (j1,.int .i64 (posN P l.frm:Int))) at hj1
 change findKey _ _ _=some (some (j2,.int .i64 (posN P l.dst:Int))) at hj2
 have hbr:=hb.2 (posN P l.frm)
 have har:=ha.2 (posN P l.dst)
 have gb:=encT_get hb.1 i1
 have ga:=encT_get ha.1 i2
 have q1:=fun X=>(Ext.refl.app (X:=X)).cells (hE.cells h1 (by simp))
 have q2:=fun X=>(Ext.refl.app (X:=X)).cells (hE.cells h2 (by simp))
 have hmG:=hE.get hm (zbj hm) (by simp)
 have q3:∀X,zG (G++X) R=.map (posV P):=fun X=>by rw [zHo (zbj hmG)];exact hmG
 have q4:=fun X=>(Ext.refl.app (X:=X)).cells hA
 have z1:(0:Int)≤(posN P l.frm:Int):=by omega
 have z2:(0:Int)≤(posN P l.dst:Int):=by omega
 have z3:(posN P l.frm:Int)<50:=by omega
 have z4:(posN P l.dst:Int)<50:=by omega
 have z5:posN P l.dst≤49:=by omega
 have z6:posN P l.frm≤49:=by omega
 have wr:IntKind.i64.wrap (ready+86400)=ready+86400:=by unfold za1 at hr2;exact zWi (by omega) (by omega)
 unfold useA
 generalize posN P l.frm=x at *
 generalize posN P l.dst=y at *
 generalize bef.getD x (-1)=b at *
 generalize hc:aft.getD y (-1)=c at *
 unfold za1 at hbr har hr2
 by_cases hbn:b<0
 ·rw [if_pos hbn]
  refine ⟨ha,fun hQ=>zbq (by decide) e70 rfl ?_⟩
  rw [b70,c70]
  simp only [n70,r70,q1,q2,q3,q4,hj1,hj2,gb,ga,z1,z2,z3,z4,z5,z6,wr,zLl,zL0,zL1,zL2,zL3,zL4,zL5,zL6,zL7,zTa,zad,Nat.mul_one,hlG,hbn,SB,Nat.reduceLT,zCa,aOp,Nat.reduceEqDiff,zB,aUn,reduceCtorEq,zFr,place,zTu,Nat.reduceAdd,Nat.reduceLeDiff,zRe,Int.reduceEq,Int.reduceLT,Int.reduceLE]
  exact hQ _ (Ext.refl.app.chg) ((Ext.refl.app).cells hA)
 rw [if_neg hbn]
 have hnx:=fun (H:zH) (mp:Bool) (lim:Nat) (Q:Value→zH→Prop)=>next_ok (mp:=mp) (lim:=lim) (H:=H) (Q:=Q) (l:=l) (r:=b) hf (by omega) (by omega)
 cases hx:zct l b with
 | none=>
   rw [hx] at hnx
   simp only [Option.map_none,depV] at hnx
   refine ⟨ha,fun hQ=>zbq (by decide) e70 rfl ?_⟩
   rw [b70,c70]
   simp only [n70,r70,q1,q2,q3,q4,hj1,hj2,gb,ga,z1,z2,z3,z4,z5,z6,wr,zLl,zL0,zL1,zL2,zL3,zL4,zL5,zL6,zL7,zTa,zad,Nat.mul_one,hlG,hbn,hnx,SB,Nat.reduceLT,zCa,aOp,Nat.reduceEqDiff,zB,aUn,reduceCtorEq,zFr,place,zTu,Nat.reduceAdd,Nat.reduceLeDiff,zRe,Int.reduceEq,Int.reduceLT,Int.reduceLE]
   exact hQ _ (Ext.refl.app.chg) ((Ext.refl.app).cells hA)
 | some a=>
   rw [hx] at hnx
   simp only [Option.map_some,depV] at hnx
   obtain ⟨k1,k2,k3⟩:=nextD_arr hf hx
   unfold Fine at hf
   by_cases hlim:a+l.mins≤ready+86400
   ·have hstore:∀Q:Value→zH→Prop,(∀G',Chg [A] G G'→zG G' A=.cells false (encT (aft.set y (a+l.mins)))→Q (.tuple #[]) G')→(c<0∨a+l.mins<c)→
      za0 E false lim 70 [.agg (encL l).toArray,.agg (encT bef).toArray,.pointer (some ⟨A,0,none⟩),.pointer (some ⟨B1,0,none⟩),.pointer (some ⟨B2,0,none⟩)] G Q:=by
     intro Q hQ hcc
     refine zbq (by decide) e70 rfl ?_
     rw [b70,c70]
     obtain ⟨G2,e2,h2,m2⟩:=za4 (zHa hA) (.cells false (encT (aft.set y (a+l.mins))))
     by_cases hcn:c<0
     ·simp only [n70,r70,q1,q2,q3,q4,hj1,hj2,gb,ga,z1,z2,z3,z4,z5,z6,wr,zLl,zL0,zL1,zL2,zL3,zL4,zL5,zL6,zL7,zTa,zad,Nat.mul_one,hlG,hbn,hnx,eq_true hlim,eq_true hcn,hlA,encT_set ha.1,e2,SB,Nat.reduceLT,zCa,aOp,Nat.reduceEqDiff,zB,aUn,reduceCtorEq,zFr,place,zTu,Nat.reduceAdd,Nat.reduceLeDiff,zRe,Int.reduceEq,Int.reduceLT,Int.reduceLE]
      exact hQ _ ((Chg.refl.mut m2 (.inl (by simp))).app) ((Ext.refl.app).cells h2)
     ·have hc2:a+l.mins<c:=by omega
      simp only [n70,r70,q1,q2,q3,q4,hj1,hj2,gb,ga,z1,z2,z3,z4,z5,z6,wr,zLl,zL0,zL1,zL2,zL3,zL4,zL5,zL6,zL7,zTa,zad,Nat.mul_one,hlG,hbn,hnx,eq_true hlim,eq_false hcn,eq_true hc2,hlA,encT_set ha.1,e2,SB,Nat.reduceLT,zCa,aOp,Nat.reduceEqDiff,zB,aUn,reduceCtorEq,zFr,place,zTu,Nat.reduceAdd,Nat.reduceLeDiff,zRe,Int.reduceEq,Int.reduceLT,Int.reduceLE]
      exact hQ _ ((Chg.refl.mut m2 (.inl (by simp))).app) ((Ext.refl.app).cells h2)
    by_cases hcc:c<0∨a+l.mins<c
    ·simp only [if_pos (And.intro hlim hcc)]
     exact ⟨okT_set ha (by omega),fun hQ=>hstore _ hQ hcc⟩
    ·simp only [if_neg (fun h:_∧_=>hcc h.2)]
     refine ⟨ha,fun hQ=>zbq (by decide) e70 rfl ?_⟩
     rw [b70,c70]
     have hcn:¬c<0:=fun h=>hcc (.inl h)
     have hc2:¬a+l.mins<c:=fun h=>hcc (.inr h)
     simp only [n70,r70,q1,q2,q3,q4,hj1,hj2,gb,ga,z1,z2,z3,z4,z5,z6,wr,zLl,zL0,zL1,zL2,zL3,zL4,zL5,zL6,zL7,zTa,zad,Nat.mul_one,hlG,hbn,hnx,eq_true hlim,eq_false hcn,eq_false hc2,SB,Nat.reduceLT,zCa,aOp,Nat.reduceEqDiff,zB,aUn,reduceCtorEq,zFr,place,zTu,Nat.reduceAdd,Nat.reduceLeDiff,zRe,Int.reduceEq,Int.reduceLT,Int.reduceLE]
     exact hQ _ (Ext.refl.app.chg) ((Ext.refl.app).cells hA)
   ·simp only [if_neg (fun h:_∧_=>hlim h.1)]
    refine ⟨ha,fun hQ=>zbq (by decide) e70 rfl ?_⟩
    rw [b70,c70]
    simp only [n70,r70,q1,q2,q3,q4,hj1,hj2,gb,ga,z1,z2,z3,z4,z5,z6,wr,zLl,zL0,zL1,zL2,zL3,zL4,zL5,zL6,zL7,zTa,zad,Nat.mul_one,hlG,hbn,hnx,eq_false hlim,SB,Nat.reduceLT,zCa,aOp,Nat.reduceEqDiff,zB,aUn,reduceCtorEq,zFr,place,zTu,Nat.reduceAdd,Nat.reduceLeDiff,zRe,Int.reduceEq,Int.reduceLT,Int.reduceLE]
    exact hQ _ (Ext.refl.app.chg) ((Ext.refl.app).cells hA)
theorem arrivals_ok [OB] {lim R:Nat} {pp pl:Option Addr} {P:List Int} {L:List Leg} {cp cl:Nat} {p ready:Int} {H:zH} {Q:Value→zH→Prop} (hn:NetIn H pp pl P L) (hv:za6 P L=0) (hm:zG H R=.map (posV P)) (hp:p∈P) (hr:0≤ready) (hr2:ready≤za1) (hlim:lim≤H.length)
  (hQ:∀H' q cap n,Chg [] H H'→arrK 50 (posN P) (ready+86400) L p ready (n+1)=arrK 50 (posN P) (ready+86400) L p ready n→(∀k,k<n→arrK 50 (posN P) (ready+86400) L p ready (k+1)≠arrK 50 (posN P) (ready+86400) L p ready k)→n<2 ^ 30→
   Own1 H.length H' encT 50 q cap ((List.range (n+1)).map (arrK 50 (posN P) (ready+86400) L p ready))→Q (.slice q (n+1) cap) H') :
  za0 E false lim 43 [.agg (netV pp P.length cp pl L.length cl).toArray,.map (some R),.int .i64 p,.int .i64 ready] H Q:=by
 have hno:=ze1 hv
 obtain ⟨v1,v2,v3,v4⟩:=zdi hv
 refine zbq (by decide) e43 rfl ?_
 rw [b43,c43]
 obtain ⟨j1,hj1⟩:=pos_yes (i:=0) hp
 have hi:posN P p<50:=hno.lt _ hp
 change findKey _ _ _=some (some (j1,.int .i64 (posN P p:Int))) at hj1
 have q3:∀X,zG (H++X) R=.map (posV P):=fun X=>by rw [zHo (zbj hm)];exact hm
 have h67:=fun (H:zH) (mp:Bool) (lim:Nat) (Q:Value→zH→Prop)=>one_ok (mp:=mp) (lim:=lim) (H:=H) (Q:=Q) (i:=posN P p) (t:=ready) hi
 simp only [n43,r43,zNl,zN0,zN1,q3,hj1,h67,SB,Nat.reduceLT,zCa,aOp,Nat.reduceEqDiff,zB,aUn,reduceCtorEq,zFr,place,zTu,Nat.reduceAdd,Nat.reduceLeDiff,zRe,Int.reduceEq,Int.reduceLT,Int.reduceLE]
 obtain ⟨n,hn1,hn2,hn3⟩:=arr_rest (lim:=ready+86400) hno hp hr (by omega)
 have hrnd:∀k,rndF (useA (posN P) (ready+86400)) L (oneT 50 (posN P p) ready) k=arrK 50 (posN P) (ready+86400) L p ready k:=fun k=>rnd_arr k
 unfold za1 at hr2
 refine rounds_ok (n0:=n) (arrive_use (R:=R) (P:=P) (ready:=ready) hno zHw zHw (q3 _) hr (by unfold za1;omega)) (okT_one hi (by unfold za1;omega)) (hn.sl.app _) (by omega) (by simp;omega) (by rw [hrnd,hrnd];exact hn2) (fun k hk=>by rw [hrnd,hrnd];exact hn3 k hk) (by omega) fun H' q cap hC hO=>?_
 rw [funext hrnd] at hO
 refine zRp ?_
 simp only [n43,r43,SB,Nat.reduceLT,zCa,aOp,Nat.reduceEqDiff,zB,aUn,reduceCtorEq,zFr,place,zTu,Nat.reduceAdd,Nat.reduceLeDiff,zRe,Int.reduceEq,Int.reduceLT,Int.reduceLE]
 rw [List.append_nil]
 refine hQ H' q cap n hC.pre hn2 hn3 (by omega) ?_
 rcases hO with hO | ⟨R',k1,k2,k3,k4,k5⟩
 ·exact .inl (hO.le (by simp))
 ·exact .inr ⟨R',k1,k2,k3,k4,by simp at k5;omega⟩
theorem clone_ok [OB] {lim c:Nat} {p:Option Addr} {l:List Int} {H:zH} {Q:Value→zH→Prop} (hs:Sl H encI 1 p l) (hn:l≠[]) (hl:l.length<2 ^ 40)
  (hQ:∀H' q,Ext H H'→Own H.length H' encI 1 q (loose 1) l→Q (.slice q l.length (loose 1)) H') :
  za0 E false lim 44 [.slice p l.length c] H Q:=by
 refine zbq (by decide) e44 rfl ?_
 rw [b44,c44]
 obtain ⟨a,rfl⟩:=hs.some hn
 have ha:=append_newN (lim:=lim) (b:=H.length) (e:=1) (bytes:=8) (c:=c) (H:=H++[.cells false []]) (enc:=encI) (p:=some a) (l:=l) zHn (hs.app _) (by decide) (by unfold za3;omega) (by omega) hn
 have hneq:aEq .slice (.slice (some a) l.length c) (.slice none 0 0)=some false:=rfl
 simp only [n44,r44,hneq,ha,SB,Nat.reduceLT,zCa,aOp,Nat.reduceEqDiff,zB,aUn,reduceCtorEq,zFr,place,zTu,Nat.reduceAdd,Nat.reduceLeDiff,zRe,Int.reduceEq,Int.reduceLT,Int.reduceLE]
 refine hQ _ _ Ext.refl.app (Own.new ?_ (by omega))
 rw [zHw];rfl
theorem sl_take {H:zH} {A:Nat} {T:List Int} {n:Nat} (hA:zG H A=.cells false (encT T)) (hT:T.length=50) (hn:n≤50):Sl H encI 1 (some ⟨A,0,none⟩) (T.take n):=by
 have:Sl H encI 1 (some ⟨A,0,none⟩) (T.take n++T.drop n):=by
  rw [List.take_append_drop]
  refine Sl.row zIl (ro:=false) ?_
  rw [hA,encT_eq hT]
  congr 1
  clear hA hT
  induction T with
  | nil=>rfl
  | cons x T ih=>rw [List.map_cons,List.flatMap_cons,ih];rfl
 exact this.pre zIl
theorem Arrive_ok [OB] {lim:Nat} {pp pl:Option Addr} {P:List Int} {L:List Leg} {cp cl:Nat} {p ready:Int} {H:zH} {Q:Value→zH→Prop} (hn:NetIn H pp pl P L) (hlim:lim≤H.length)
  (hbad:∀H',errA P L p p ready≠0→Chg [] H H'→Q (.tuple #[.slice none 0 0,.int .i64 (errA P L p p ready)]) H')
  (hok:∀H' q T,errA P L p p ready=0→Chg [] H H'→arrRL P L p ready T→Own H.length H' encI 1 q (loose 1) T→T.length=P.length→Q (.tuple #[.slice q P.length (loose 1),.int .i64 0]) H') :
  za0 E false lim 19 [.agg (netV pp P.length cp pl L.length cl).toArray,.int .i64 p,.int .i64 ready] H Q:=by
 refine zbq (by decide) e19 rfl ?_
 rw [b19,c19]
 simp only [n19,r19,zNl,zN0,zN1,zTa,SB,Nat.reduceLT,zCa,aOp,Nat.reduceEqDiff,zB,aUn,reduceCtorEq,zFr,place,zTu,Nat.reduceAdd,Nat.reduceLeDiff,zRe,Int.reduceEq,Int.reduceLT,Int.reduceLE]
 refine allowedR_ok (hn.app _) (by simp;omega) (fun H' he hE=>?_) (fun H' R he hE hm hR=>?_)
 ·refine zRp ?_
  simp only [n19,r19,he,eq_false he,SB,Nat.reduceLT,zCa,aOp,Nat.reduceEqDiff,zB,aUn,reduceCtorEq,zFr,place,zTu,Nat.reduceAdd,Nat.reduceLeDiff,zRe,Int.reduceEq,Int.reduceLT,Int.reduceLE]
  exact hbad _ he (hE.chg.pre.app)
 ·obtain ⟨hv,hp,_,hr,hr2⟩:=errA_0 he
  obtain ⟨v1,v2,v3,v4⟩:=zdi hv
  have hlE:=hE.len
  simp only [List.length_append,List.length_cons,List.length_nil] at hlE hR
  have hnet:zG H' H.length=.cells false (netV pp P.length cp pl L.length cl):=hE.cells zHn
  have hnX:=fun X=>(Ext.refl.app (X:=X)).cells hnet
  refine zRp ?_
  simp only [n19,r19,hnX,zNl,zN0,zN1,zTa,SB,Nat.reduceLT,zCa,aOp,Nat.reduceEqDiff,zB,aUn,reduceCtorEq,zFr,place,zTu,Nat.reduceAdd,Nat.reduceLeDiff,zRe,Int.reduceEq,Int.reduceLT,Int.reduceLE]
  rw [List.append_nil]
  have hEH:Ext H H':=by obtain ⟨Y,rfl⟩:=hE;rw [List.append_assoc];exact Ext.refl.app
  refine arrivals_ok (hn.ext hEH) hv hm hp hr hr2 (by omega) fun H2 q cap n hC hfix hno hnn hO=>?_
  have hl2:=hC.len
  have hlen:((List.range (n+1)).map (arrK 50 (posN P) (ready+86400) L p ready)).length=n+1:=by simp
  have hgt:gt ((List.range (n+1)).map (arrK 50 (posN P) (ready+86400) L p ready)) n=arrK 50 (posN P) (ready+86400) L p ready n:=by
   rw [zGl (by rw [hlen];omega)];simp
  have hS:=hO.sl zad
  have hld:=fun X=>(hS.app X).loadCells zad (i:=n) (by rw [hlen];omega)
  have hidx:=fun c (kk:IntKind) (H1:zH)=>hS.idx (c:=c) (k:=kk) (H1:=H1) (i:=n) (by rw [hlen];omega)
  rw [hlen] at hidx
  rw [hgt] at hld
  have hw1:IntKind.i64.wrap (((n+1:Nat):Int)-1)=(n:Int):=by rw [zWi (by omega) (by omega)];omega
  have hnX2:=fun X=>(Ext.refl.app (X:=X)).cells (hC.cells hnet (by simp))
  have hPl:0<P.length:=List.length_pos_of_mem hp
  have hcut:∀b:Nat,sliceAV 50 1 (.pointer (some ⟨b,0,none⟩)) none (some (.int .i64 (P.length:Int))) none=some (.slice (some ⟨b,0,none⟩) P.length 50):=fun b=>by
   have:=sliceAV_cut (n:=50) (e:=1) (a:=⟨b,0,none⟩) (lo:=0) (hi:=P.length) (vlo:=none) (vhi:=some (.int .i64 (P.length:Int))) (by rw [bv_010 (by omega) (by omega),Int.toNat_natCast]) (by decide) (by decide)
   rw [this];simp [zay]
  refine zRp ?_
  simp only [n19,r19,hnX2,hidx,hld,hw1,zNl,zN0,zN1,zz50,zad,zTa,zSa,List.length_replicate,show lim≤H2.length by omega,hcut,SB,Nat.reduceLT,zCa,aOp,Nat.reduceEqDiff,zB,aUn,reduceCtorEq,zFr,place,zTu,Nat.reduceAdd,Nat.reduceLeDiff,zRe,Int.reduceEq,Int.reduceLT,Int.reduceLE]
  have hTl:(arrK 50 (posN P) (ready+86400) L p ready n).length=50:=arrK_len
  have htl:((arrK 50 (posN P) (ready+86400) L p ready n).take P.length).length=P.length:=by rw [List.length_take,hTl];omega
  have hcl:=fun Q=>clone_ok (Q:=Q) (lim:=lim) (c:=50) (p:=some ⟨H2.length,0,none⟩) (l:=(arrK 50 (posN P) (ready+86400) L p ready n).take P.length) (H:=H2++[.cells false (encT (arrK 50 (posN P) (ready+86400) L p ready n))]) (sl_take zHn hTl v1) (fun h=>by rw [h] at htl;simp at htl;omega) (by rw [htl];omega)
  rw [htl] at hcl
  refine hcl _ fun H3 q3 hE3 hO3=>?_
  refine zRp ?_
  simp only [n19,r19,SB,Nat.reduceLT,zCa,aOp,Nat.reduceEqDiff,zB,aUn,reduceCtorEq,zFr,place,zTu,Nat.reduceAdd,Nat.reduceLeDiff,zRe,Int.reduceEq,Int.reduceLT,Int.reduceLE]
  refine hok _ _ _ he ?_ (arr_all (ze1 hv) v1 hp hr hfix) ((hO3.le (by simp;omega)).app _) htl
  exact (((hEH.chg).trans hC).trans (hE3.chg.pre)).app
end Go.Proofs.YtohnaffmcjbpoaaGreat.Fn

namespace Go.Proofs.YtohnaffmcjbpoaaGreat.Fn
open Go.AM Go.AM.Sym Go.Net Go.Flow
theorem end_loop [OB] {lim B11 B17 cp cl nq cq ct ce:Nat} {inb:Bool} {dl:Int} {pp pl pt pe q:Option Addr} {P TL EL:List Int} {nL:Nat} {G:zH} {fr:Nat→Value} {K:List zAi} {Q:Value→zH→Prop}
  (f3:fr 3=.int .i64 dl) (f11:fr 11=.pointer (some ⟨B11,0,none⟩)) (f17:fr 17=.pointer (some ⟨B17,0,none⟩)) (f19:fr 19=.slice pe P.length ce) (f22:fr 22=.bool inb) (f23:fr 23=.int .i64 0)
  (b11:zG G B11=.cells false (netV pp P.length cp pl nL cl)) (b17:zG G B17=.cells false [.slice pt P.length ct,.slice q nq cq]) (sT:Sl G encI 1 pt TL) (sE:Sl G encI 1 pe EL) (hT:TL.length=P.length) (hE:EL.length=P.length) (hP:P.length<2 ^ 40)
  (hall:∀j,j<P.length→gt TL j=if inb=true∨dl<gt EL j then -1 else gt EL j)
  (hR:∀fr' G',Ret E a5 lim K fr' G' Q) :
  Ret E a5 lim (.code (.loop l5_1)::.inBlock 2::K) fr G Q:=by
 refine zRr (fun j=>P.length-j) (fun j fr2 G'=>j≤P.length∧fr2 3=.int .i64 dl∧fr2 11=.pointer (some ⟨B11,0,none⟩)∧fr2 17=.pointer (some ⟨B17,0,none⟩)∧fr2 19=.slice pe P.length ce∧fr2 22=.bool inb∧fr2 23=.int .i64 (j:Int)∧Ext G G') 0 ⟨Nat.zero_le _,f3,f11,f17,f19,f22,f23,.refl⟩ ?_
 intro j fr2 G' ⟨hj,q3,q11,q17,q19,q22,q23,hX⟩ hN
 rw [zRc l5_1.eq_1]
 refine zRp ?_
 have k11:=fun Z=>(hX.app (X:=Z)).cells b11
 have k17:=fun Z=>(hX.app (X:=Z)).cells b17
 by_cases hlt:j<P.length
 case neg=>
  obtain rfl:j=P.length:=by omega
  simp only [n5,r5,q3,q11,q17,q19,q22,q23,k11,zNl,zN0,zN1,SB,seval,zCa,aOp,zB,aUn,reduceCtorEq,zFr,place,zTu,zRe]
  exact hR _ _
 have ha:=hall j hlt
 have ldE:∀Z,AM.loadCell (G'++Z) (elt pe 1 j)=some (.int .i64 (gt EL j)):=fun Z=>by
  have:=((hX.sl sE).app Z).loadCell0 zIl (i:=j) (by omega) (by decide)
  exact this
 have ldT:∀Z,AM.loadCell (G'++Z) (elt pt 1 j)=some (.int .i64 (gt TL j)):=fun Z=>by
  have:=((hX.sl sT).app Z).loadCell0 zIl (i:=j) (by omega) (by decide)
  exact this
 have xE:=ix_N (hX.sl sE) (i:=j) (by omega) rfl
 have xT:=ix_N (hX.sl sT) (i:=j) (by omega) rfl
 rw [hE] at xE
 rw [hT] at xT
 have w1:IntKind.i64.wrap ((j:Int)+1)=((j+1:Nat):Int):=zWn (by omega)
 cases inb with
 | true=>
   rw [if_pos (.inl rfl)] at ha
   rw [ha] at ldT
   simp only [n5,r5,q3,q11,q17,q19,q22,q23,k11,k17,zNl,zN0,zN1,hlt,ldE,ldT,xE,xT,w1,SB,seval,zCa,aOp,zB,aUn,reduceCtorEq,zFr,place,zTu,zRe]
   exact hN (j+1) _ _ ⟨by omega,by exact q3,by exact q11,by exact q17,by exact q19,by exact q22,(by rfl),hX.app⟩ (by omega)
 | false=>
   by_cases hd:dl<gt EL j
   ·rw [if_pos (.inr hd)] at ha
    rw [ha] at ldT
    simp only [n5,r5,q3,q11,q17,q19,q22,q23,k11,k17,zNl,zN0,zN1,hlt,ldE,ldT,xE,xT,w1,eq_true hd,SB,seval,zCa,aOp,zB,aUn,reduceCtorEq,zFr,place,zTu,zRe]
    exact hN (j+1) _ _ ⟨by omega,by exact q3,by exact q11,by exact q17,by exact q19,by exact q22,(by rfl),hX.app⟩ (by omega)
   ·rw [if_neg (fun h=>h.elim (fun h=>by cases h) hd)] at ha
    rw [ha] at ldT
    simp only [n5,r5,q3,q11,q17,q19,q22,q23,k11,k17,zNl,zN0,zN1,hlt,ldE,ldT,xE,xT,w1,eq_false hd,SB,seval,zCa,aOp,zB,aUn,reduceCtorEq,zFr,place,zTu,zRe]
    exact hN (j+1) _ _ ⟨by omega,by exact q3,by exact q11,by exact q17,by exact q19,by exact q22,(by rfl),hX.app⟩ (by omega)
theorem LoadOne_ok [OB] {lim:Nat} {pp pl:Option Addr} {P:List Int} {L:List Leg} {cp cl:Nat} {frm to dl ahead:Int} {H:zH} (hon:OB.on 7=true) (hn:NetIn H pp pl P L) :
  za0 E false lim 5 [.agg (netV pp P.length cp pl L.length cl).toArray,.int .i64 frm,.int .i64 to,.int .i64 dl,.int .i64 ahead] H fun v _=>v=.bool true:=by
 refine Eq.mpr (pc (v:=.bool true) (by decide) e5 rfl rfl ?_) rfl
 rw [b5,c5]
 have aw:=awake33_on hon
 have hlim:H.length≤H.length:=Nat.le_refl _
 have hv:=fun Z (mp:Bool) (lim:Nat) (Q:Value→zH→Prop)=>valid_ok (mp:=mp) (lim:=lim) (cp:=cp) (cl:=cl) (Q:=Q) (hn.app Z)
 have hgr:=fun Z (mp:Bool) (lim:Nat) (Q:Value→zH→Prop)=>great_ok (mp:=mp) (lim:=lim) (cp:=cp) (cl:=cl) (ps:=none) (n:=0) (cs:=0) (Q:=Q) (hn.app Z)
 cases g1:greatN P L 0 with
 | true=>
   rw [g1] at hgr
   simp only [n5,r5,zNl,zN0,zN1,hlim,aw,hgr,SB,seval,zCa,aOp,zB,aUn,reduceCtorEq,zFr,place,zTu,zRe]
 | false=>
 rw [g1] at hgr
 by_cases g2:za6 P L=0
 case neg=>simp only [n5,r5,zNl,zN0,zN1,hlim,aw,hgr,hv,eq_false g2,SB,seval,zCa,aOp,zB,aUn,reduceCtorEq,zFr,place,zTu,zRe]
 obtain ⟨hP7,hL8,_⟩:=great_no g1 g2
 have hpl:=fun Z (mp:Bool) (lim:Nat) (a:Int) (Q:Value→zH→Prop)=>place_ok (mp:=mp) (lim:=lim) (np:=0) (cp:=cp) (cl:=cl) (nl:=L.length) (pl:=pl) (a:=a) (Q:=Q) (hn.sp.app Z) (by omega)
 have no:∀a,a∉P→placeN P a=-1:=fun a h=>if_neg h
 have yes:∀a,a∈P→placeN P a=((posN P a:Nat):Int):=fun a h=>if_pos h
 have nn:∀n:Nat,((n:Int)<0)=False:=fun n=>eq_false (by omega)
 by_cases g3:frm∈P
 case neg=>simp only [n5,r5,zNl,zN0,zN1,hlim,aw,hgr,hv,eq_true g2,hpl,no _ g3,SB,seval,zCa,aOp,zB,aUn,reduceCtorEq,zFr,place,zTu,zRe]
 by_cases g4:to∈P
 case neg=>simp only [n5,r5,zNl,zN0,zN1,hlim,aw,hgr,hv,eq_true g2,hpl,yes _ g3,no _ g4,nn,SB,seval,zCa,aOp,zB,aUn,reduceCtorEq,zFr,place,zTu,zRe]
 by_cases g5:dl<0
 ·simp only [n5,r5,zNl,zN0,zN1,hlim,aw,hgr,hv,eq_true g2,hpl,yes _ g3,yes _ g4,nn,eq_true g5,SB,seval,zCa,aOp,zB,aUn,reduceCtorEq,zFr,place,zTu,zRe]
 by_cases g6:1051898399<dl
 ·simp only [n5,r5,zNl,zN0,zN1,hlim,aw,hgr,hv,eq_true g2,hpl,yes _ g3,yes _ g4,nn,eq_false g5,eq_true g6,SB,seval,zCa,aOp,zB,aUn,reduceCtorEq,zFr,place,zTu,zRe]
 simp only [n5,r5,zNl,zN0,zN1,hlim,aw,hgr,hv,eq_true g2,hpl,yes _ g3,yes _ g4,nn,eq_false g5,eq_false g6,SB,seval,zCa,aOp,zB,aUn,reduceCtorEq,zFr,place,zTu,zRe]
 have mt:za1=1051898399:=rfl
 have hnet:=ze1 g2
 refine copynet_ok (hn.sp.app _) (hn.sl.app _) (by omega) (by omega) (by simp) fun G1 pp' cp' pl' cl' hOp hOl hC1=>?_
 have hl1:=hC1.len
 simp only [List.length_append,List.length_cons,List.length_nil] at hl1 hOp hOl
 refine zRp ?_
 simp only [n5,r5,zNl,zN0,zN1,show H.length≤G1.length by omega,zSa,SB,seval,zCa,aOp,zB,aUn,reduceCtorEq,zFr,place,zTu,zRe]
 refine up_loop (M:=H.length+1) (B:=G1.length) (v1:=.int .i64 frm) (v2:=.int .i64 to) (v3:=.int .i64 dl) (v4:=.int .i64 ahead) (v5:=.pointer (some ⟨H.length,0,none⟩)) (np:=P.length) (cp:=cp') (cl:=cl') (pp:=pp') (pl:=pl') (L:=L) ⟨(by rfl),(by rfl),(by rfl),(by rfl),(by rfl),(by rfl)⟩ (by rfl) (hOl.app _) (by omega) (by omega) (by omega) zHn (fun a ha e=>by have:=(hOl.block ha).2;omega) fun fr2 G2 hf hO2 hB2 hC2=>?_
 obtain ⟨f1,f2,f3,f4,f5,f11⟩:=hf
 have hl2:=hC2.len
 simp only [List.length_append,List.length_cons,List.length_nil] at hl2
 have sp2:Sl G2 encI 1 pp' P:=by
  refine hC2.sl ((hOp.sl zIl).app _) fun a ha hne hm=>?_
  obtain ⟨b,hb,e⟩:=zOm.1 hm
  rcases hOp with ⟨h0,_,_⟩ | ⟨R,rfl,_,hR,_⟩
  ·exact hne h0
  ·rcases hOl with ⟨_,rfl,_⟩ | ⟨R',rfl,_,hR',_⟩
   ·cases hb
   ·cases ha;cases hb
    simp only at e
    rw [e,hR] at hR'
    injection hR' with _ hR'
    have e2:=congrArg List.length hR'
    rw [zaa zIl,zaa zLl] at e2
    have e3:P.length≠0:=fun h0=>hne (List.length_eq_zero_iff.1 h0)
    omega
 obtain ⟨L',hL'⟩:∃L',L'=upL L L.length:=⟨_,rfl⟩
 rw [←hL'] at hO2
 have hLl:L'.length=L.length:=by rw [hL',zcm]
 rw [←hLl] at hB2
 have kB:=fun Z=>(Ext.refl.app (X:=Z)).cells hB2
 have hv':za6 P L'=0:=by rw [hL'];exact upL_valid g2 _ (Nat.le_refl _)
 have hFL:∀l∈L',Fine l∧1≤l.grams:=by rw [hL'];exact upL_all hnet.fine
 have n2:NetIn G2 pp' pl' P L':=⟨sp2,hO2.sl zLl,hn.np,by rw [hLl];exact hn.nl,fun l hl=>(hFL l hl).1.by⟩
 have hpi:=fun (H:zH) (mp:Bool) (lim:Nat) (Q:Value→zH→Prop)=>pick_ok (mp:=mp) (lim:=lim) (a:=ahead) (n:=20161) (H:=H) (Q:=Q) (by omega)
 have hpk:=pickN_range (a:=ahead) (n:=20161) (by omega)
 obtain ⟨rd,hrd⟩:∃rd,rd=max 0 (dl-pickN ahead 20161):=⟨_,rfl⟩
 have wd:IntKind.i64.wrap (dl-pickN ahead 20161)=dl-pickN ahead 20161:=zWi (by omega) (by omega)
 have hr0:0≤rd:=by omega
 have hr1:rd≤dl:=by omega
 have hr2:dl-20160≤rd:=by omega
 refine zRp ?_
 simp only [n5,r5,f1,f2,f3,f4,f5,f11,kB,zNl,zN0,zN1,hpi,wd,max_v,zSa,show H.length≤G2.length by omega,SB,seval,zCa,aOp,zB,aUn,reduceCtorEq,zFr,place,zTu,zRe]
 rw [←hrd]
 obtain ⟨G3,hG3⟩:∃G3,G3=G2++[Blk.cells false [.int .i64 frm,.int .i64 rd,.int .i64 1]]:=⟨_,rfl⟩
 have n3:NetIn G3 pp' pl' P L':=by rw [hG3];exact n2.app _
 have s3:Sl G3 encS 3 (some ⟨G2.length,0,none⟩) [(⟨frm,rd,1⟩:Flow.Src)]:=by rw [hG3];exact Sl.row (ro:=false) zEl zHn
 have hB3:zG G3 G1.length=.cells false (netV pp' P.length cp' pl' L'.length cl'):=by rw [hG3];exact kB _
 have hl3:G3.length=G2.length+1:=by rw [hG3];simp
 rw [←hG3]
 clear hG3
 have hal:zAn P L' [⟨frm,rd,1⟩] to dl=0:=by
  unfold zAn
  rw [if_neg fun q=>q hv',if_neg fun q=>q ⟨g4,by omega,by omega⟩,if_neg (by simp),if_pos fun x hx=>by rw [List.mem_singleton.1 hx];exact ⟨g3,hr0,by show rd≤_;omega,by show (0:Int)≤1;decide,by show (1:Int)≤1000000000;decide⟩]
 have hmA:mostA P L' [⟨frm,rd,1⟩] to dl=mostN [⟨frm,rd,1⟩] (zCc L' to dl) to dl:=if_pos hal
 have hmo:∀Q,za0 E false H.length 17 [.agg (netV pp' P.length cp' pl' L'.length cl').toArray,.slice (some ⟨G2.length,0,none⟩) 1 1,.int .i64 to,.int .i64 dl] G3 Q=Q (.tuple #[.int .i64 (mostN [⟨frm,rd,1⟩] (zCc L' to dl) to dl),.int .i64 0]) G3:=fun Q=>by
  have:=most_ok (mp:=false) (lim:=H.length) (cp:=cp') (cl:=cl') (cs:=1) (to:=to) (dl:=dl) (Q:=Q) n3 s3 (by simp) fun _=>by rw [hLl];exact hL8
  rw [hmA,hal] at this
  exact this
 rw [hmo]
 have kB3:=fun Z=>(Ext.refl.app (X:=Z)).cells hB3
 refine zRp ?_
 simp only [n5,r5,f1,f2,f3,f4,f5,f11,kB3,zNl,zN0,zN1,SB,seval,zCa,aOp,zB,aUn,reduceCtorEq,zFr,place,zTu,zRe]
 refine bind_ok (s:=[⟨frm,rd,1⟩]) (n3.app _) (s3.app _) (by rw [hLl];exact hL8) (by omega) (by simp;omega) hal fun G4 pt ct q c SD hO4 hO4q hperm hpw hC4=>?_
 have hl4:=hC4.len
 simp only [List.length_append,List.length_nil,Nat.add_zero] at hl4 hO4
 have n4:NetIn G4 pp' pl' P L':=(n3.app []).ext hC4.ext
 have hB4:zG G4 G1.length=.cells false (netV pp' P.length cp' pl' L'.length cl'):=hC4.cells (kB3 _) (by simp)
 have kB4:=fun Z=>(Ext.refl.app (X:=Z)).cells hB4
 have hEA:errA P L' frm frm rd=0:=by
  unfold errA
  rw [if_neg fun q=>q hv',if_pos ⟨g3,g3,hr0,by omega⟩]
 refine zRp ?_
 simp only [n5,r5,f1,f2,f3,f4,f5,f11,kB4,zNl,zN0,zN1,zSa,show H.length≤G4.length by omega,SB,seval,zCa,aOp,zB,aUn,reduceCtorEq,zFr,place,zTu,zRe]
 refine Arrive_ok (n4.app _) (by simp;omega) (fun G5 he=>absurd hEA he) fun G5 qa TE _ hC5 hArr hOA hTl=>?_
 have hl5:=hC5.len
 simp only [List.length_append,List.length_cons,List.length_nil,Nat.add_zero] at hl5 hOA
 have hB5:zG G5 G1.length=.cells false (netV pp' P.length cp' pl' L'.length cl'):=hC5.cells (kB4 _) (by simp)
 have b17:zG G5 G4.length=.cells false [.slice pt P.length ct,.slice q SD.length c]:=hC5.cells zHn (by simp)
 have kB5:=fun Z=>(Ext.refl.app (X:=Z)).cells hB5
 have k17:=fun Z=>(Ext.refl.app (X:=Z)).cells b17
 have n5':NetIn G5 pp' pl' P L':=(n4.app _).ext hC5.ext
 have sE:Sl G5 encI 1 qa TE:=hOA.sl zIl
 have sT:Sl G5 encI 1 pt (zbt (cutT [⟨frm,rd,1⟩] (zCc L' to dl) to dl) P):=hC5.sl ((hO4.sl zIl).app _) fun _ _ _ h=>by cases h
 have hpl5:=fun Z (mp:Bool) (lim:Nat) (a:Int) (Q:Value→zH→Prop)=>place_ok (mp:=mp) (lim:=lim) (np:=0) (cp:=cp') (cl:=cl') (nl:=L'.length) (pl:=pl') (a:=a) (Q:=Q) (n5'.sp.app Z) (by omega)
 have hlt:posN P to<P.length:=List.idxOf_lt_length_of_mem g4
 have hgD:∀k,k<P.length→TE.getD k (-1)=gt TE k:=fun k hk=>by
  rw [zGl (by omega),List.getD_eq_getElem?_getD,List.getElem?_eq_getElem (by omega)];rfl
 have hbest:=one_best (to:=to) (dl:=dl) hFL hr0 hr1 hr2 (P:=P) (E:=fun p=>TE.getD (posN P p) (-1)) (fun l hl=>(ze1 hv').dst l hl) g3 g4 fun p hp=>hArr.2 p hp
 obtain ⟨eV,eT⟩:=zbe hbest
 obtain ⟨e,he⟩:∃e,e=gt TE (posN P to):=⟨_,rfl⟩
 have he':TE.getD (posN P to) (-1)=e:=by rw [hgD _ hlt,he]
 simp only [he'] at eV eT
 rw [←eT] at sT
 have ldE:∀Z,AM.loadCell (G5++Z) (elt qa 1 (posN P to))=some (.int .i64 e):=fun Z=>by
  have:=(sE.app Z).loadCell0 zIl (i:=posN P to) (by omega) (by decide)
  rw [he];exact this
 have xE:=ix_N sE (i:=posN P to) (by omega) rfl
 rw [hTl] at xE
 have hge:∀k,k<P.length→-1≤gt TE k∧(0≤gt TE k→gt TE k=gt TE k):=fun k hk=>by
  have hk':=hArr.2 (gt P k) (zag hk)
  rw [posN_gt hv' hk,hgD k hk] at hk'
  rcases hk' with ⟨h,_⟩ | ⟨⟨⟨_,hw⟩,_⟩,_⟩
  ·omega
  ·have:=hw.later fun x hx=>(hFL x hx).1
   omega
 have hTt:∀k,k<P.length→∀T:Int→Option Int,gt (zbt T P) k=(T (gt P k)).getD (-1):=fun k hk T=>gt_times hk
 have htl:∀T:Int→Option Int,(zbt T P).length=P.length:=fun T=>by unfold zbt;simp
 have hq:∀b:Bool,aEq .bool (.bool b) (.bool b)=some true:=fun b=>by cases b<;>rfl
 rw [←eV]
 by_cases hin:0≤e∧e≤dl
 ·rw [if_pos hin] at eT sT⊢
  refine zRp ?_
  simp only [n5,r5,f1,f2,f3,f4,f5,f11,kB5,k17,zNl,zN0,zN1,hpl5,yes _ g4,xE,ldE,eq_true hin.1,eq_true hin.2,hq,SB,seval,zCa,aOp,zB,aUn,reduceCtorEq,zFr,place,zTu,zRe]
  refine end_loop (inb:=true) (dl:=dl) (by exact f3) (by exact f11) (by rfl) (by rfl) (by rfl) (by rfl) (kB5 _) (k17 _) (sT.app _) (sE.app _) (htl _) hTl (by omega) (fun k hk=>?_) fun fr6 G6=>?_
  ·rw [if_pos (.inl rfl),hTt k hk];rfl
  ·refine zRp ?_
   simp only [n5,r5,SB,seval,zCa,aOp,zB,aUn,reduceCtorEq,zFr,place,zTu,zRe]
 ·rw [if_neg hin] at eT sT⊢
  have hall:∀k,k<P.length→gt (zbt (earT P (fun p=>TE.getD (posN P p) (-1)) dl) P) k=if false=true∨dl<gt TE k then -1 else gt TE k:=fun k hk=>by
   rw [hTt k hk]
   unfold earT
   simp only [posN_gt hv' hk,hgD k hk]
   have:=(hge k hk).1
   by_cases c1:0≤gt TE k∧gt TE k≤dl
   ·rw [if_pos ⟨zag hk,c1⟩,if_neg fun h=>h.elim (fun h=>by cases h) fun h=>by omega];rfl
   ·rw [if_neg fun h=>c1 h.2]
    by_cases c2:dl<gt TE k
    ·rw [if_pos (.inr c2)];rfl
    ·rw [if_neg fun h=>h.elim (fun h=>by cases h) c2]
     show (-1:Int)=_
     omega
  by_cases h0:0≤e
  ·have h1:¬e≤dl:=fun h=>hin ⟨h0,h⟩
   refine zRp ?_
   simp only [n5,r5,f1,f2,f3,f4,f5,f11,kB5,k17,zNl,zN0,zN1,hpl5,yes _ g4,xE,ldE,eq_true h0,eq_false h1,hq,SB,seval,zCa,aOp,zB,aUn,reduceCtorEq,zFr,place,zTu,zRe]
   refine end_loop (inb:=false) (dl:=dl) (by exact f3) (by exact f11) (by rfl) (by rfl) (by rfl) (by rfl) (kB5 _) (k17 _) (sT.app _) (sE.app _) (htl _) hTl (by omega) hall fun fr6 G6=>?_
   refine zRp ?_
   simp only [n5,r5,SB,seval,zCa,aOp,zB,aUn,reduceCtorEq,zFr,place,zTu,zRe]
  ·refine zRp ?_
   simp only [n5,r5,f1,f2,f3,f4,f5,f11,kB5,k17,zNl,zN0,zN1,hpl5,yes _ g4,xE,ldE,eq_false h0,hq,SB,seval,zCa,aOp,zB,aUn,reduceCtorEq,zFr,place,zTu,zRe]
   refine end_loop (inb:=false) (dl:=dl) (by exact f3) (by exact f11) (by rfl) (by rfl) (by rfl) (by rfl) (kB5 _) (k17 _) (sT.app _) (sE.app _) (htl _) hTl (by omega) hall fun fr6 G6=>?_
   refine zRp ?_
   simp only [n5,r5,SB,seval,zCa,aOp,zB,aUn,reduceCtorEq,zFr,place,zTu,zRe]
end Go.Proofs.YtohnaffmcjbpoaaGreat.Fn

