/-
  Joined texts, 6 of 9. A part of the claim that the last text states.
-/
import Derived.Test.YtohnaffmcjbpoaaGreatPO5
set_option linter.unusedVariables false
set_option linter.unusedSimpArgs false
set_option linter.defProp false
set_option linter.unusedSectionVars false
set_option maxRecDepth 100000
set_option maxHeartbeats 4000000
namespace Go.Proofs.YtohnaffmcjbpoaaGreat.Fn
open Go.AM Go.AM.Sym Go.Net
def netV (pp:Option Addr) (np cp:Nat) (pl:Option Addr) (nl cl:Nat):List Value:=[.slice pp np cp,.slice pl nl cl]
theorem zNl {pp pl:Option Addr} {np cp nl cl:Nat}:(netV pp np cp pl nl cl).length=2:=id rfl
theorem zN0 {pp pl:Option Addr} {np cp nl cl:Nat}:(netV pp np cp pl nl cl)[0]? = some (.slice pp np cp):=id rfl
theorem zN1 {pp pl:Option Addr} {np cp nl cl:Nat}:(netV pp np cp pl nl cl)[1]? = some (.slice pl nl cl):=id rfl
structure NetIn (H:zH) (pp pl:Option Addr) (P:List Int) (L:List Leg):Prop where
 sp:Sl H encI 1 pp P
 sl:Sl H encL 8 pl L
 np:P.length<2 ^ 63
 nl:L.length<2 ^ 63
 bys:∀l∈L,By l
theorem NetIn.app {H:zH} {pp pl:Option Addr} {P:List Int} {L:List Leg} (h:NetIn H pp pl P L) (X:zH):NetIn (H++X) pp pl P L:=⟨h.sp.app X,h.sl.app X,h.np,h.nl,h.bys⟩
theorem NetIn.ext {H G:zH} {pp pl:Option Addr} {P:List Int} {L:List Leg} (h:NetIn H pp pl P L) (e:Ext H G):NetIn G pp pl P L:=⟨e.sl h.sp,e.sl h.sl,h.np,h.nl,h.bys⟩
def zd9 (ks:List Int):List (Value×Value):=ks.map fun k=>(.int .i64 k,.bool true)
theorem met_no {ks:List Int} {a:Int} {i:Nat} (h:a∉ks):findKey (.int .i64 a) (zd9 ks) i=some none:=by
 unfold zd9
 exact findKey_no (f:=fun k:Int=>k) (g:=fun _=>.bool true) fun x hx e=>h (e▸hx)
theorem met_yes {ks:List Int} {a:Int} {i:Nat} (h:a∈ks):∃j,findKey (.int .i64 a) (zd9 ks) i=some (some (j,.bool true)):=by
 unfold zd9
 exact findKey_yes (f:=fun k:Int=>k) (g:=fun _=>.bool true) ⟨a,h,rfl⟩ fun _ _ _=>rfl
theorem met_add {ks:List Int} {a:Int}:zd9 ks++[(.int .i64 a,.bool true)]=zd9 (ks++[a]):=by simp [zd9]
def pOk (P:List Int) (i:Nat):Prop:=1≤gt P i∧gt P i≤999999∧gt P i∉P.take i
instance (P:List Int) (i:Nat):Decidable (pOk P i):=by unfold pOk;infer_instance
def zcx (P:List Int):Prop:=∀i,i<P.length→pOk P i
instance (P:List Int):Decidable (zcx P):=by unfold zcx;infer_instance
def lOk (P:List Int) (L:List Leg) (i:Nat):Prop:=Fine (gt L i)∧(gt L i).id∉(L.take i).map (·.id)∧(gt L i).frm∈P∧(gt L i).dst∈P
instance (P:List Int) (L:List Leg) (i:Nat):Decidable (lOk P L i):=by unfold lOk;infer_instance
def LegsOk (P:List Int) (L:List Leg):Prop:=∀i,i<L.length→lOk P L i
instance (P:List Int) (L:List Leg):Decidable (LegsOk P L):=by unfold LegsOk;infer_instance
def za6 (P:List Int) (L:List Leg):Int:=if 50<P.length∨200<L.length then 5 else if ¬zcx P then 320 else if ¬LegsOk P L then 321 else 0
theorem valid_legs [OB] {H G:zH} {pp pl:Option Addr} {P:List Int} {L:List Leg} {cp cl R:Nat} {fr:Nat→Value} {K:List zAi} {v:Value} (hn:NetIn G pp pl P L) (hNV:zG G R=.cells false (netV pp P.length cp pl L.length cl))
  (hm:zG G (R+1)=.map (zd9 P)) (hR:H.length≤R) (f1:fr 1=.pointer (some ⟨R,0,none⟩)) (f3:fr 3=.map (some (R+1))) (f6:fr 6=.map (some G.length)) (f49:fr 49=.slice pl L.length cl) (f50:fr 50=.int .i64 (L.length:Int)) (f51:fr 51=.int .i64 0)
  (hbad:¬LegsOk P L→v=.int .i64 321)
  (hR':∀fr' G',LegsOk P L→Ret E a13 H.length K fr' (G'++[]) fun v' _=>v'=v) :
  Ret E a13 H.length (.code (.loop l13_1)::.inBlock 2::K) fr (G++[.map []]) fun v' _=>v'=v:=by
 have hlG:=zbj hm
 refine zRr (fun i=>L.length-i) (fun i fr G'=>i≤L.length∧fr 3=.map (some (R+1))∧fr 6=.map (some G.length)∧fr 49=.slice pl L.length cl∧fr 50=.int .i64 (L.length:Int)∧fr 51=.int .i64 (i:Int)∧
  G.length<G'.length∧Sl G' encL 8 pl L∧zG G' (R+1)=.map (zd9 P)∧zG G' G.length=.map (zd9 ((L.take i).map (·.id)))∧∀j,j<i→lOk P L j) 0
  ⟨Nat.zero_le _,f3,f6,f49,f50,f51,by simp,hn.sl.app _,by rw [zHo hlG];exact hm,zHn,fun j hj=>by omega⟩ ?_
 intro i fr G' ⟨hi,h3,h6,h49,h50,h51,hL,hsl,hmp,hml,hall⟩ hN
 rw [zRc l13_1.eq_1]
 refine zRp ?_
 by_cases hlt:i<L.length
 ·have hL':=Nat.le_of_lt hL
  have hby:=hn.bys _ (zag hlt)
  have hp':∀X,zG (G'++X) (R+1)=.map (zd9 P):=fun X=>by rw [zHo (zbj hmp)];exact hmp
  have hm':∀X,zG (G'++X) G.length=.map (zd9 ((L.take i).map (·.id))):=fun X=>by rw [zHo hL];exact hml
  have hld:=fun X=>(hsl.app X).loadCells zLl hlt
  have hidx:=fun c (k:IntKind) (H1:zH)=>hsl.idx (c:=c) (k:=k) (H1:=H1) hlt
  have hw1:IntKind.i64.wrap ((i:Int)+1)=((i+1:Nat):Int):=zWn (by have:=hn.nl;omega)
  have hlG2:H.length≤G.length:=by omega
  have hlG3:H.length≤G'.length:=by omega
  have hrt:=fun (H:zH) (mp:Bool) (lim:Nat) (Q:Value→zH→Prop)=>right_ok (mp:=mp) (lim:=lim) (H:=H) (Q:=Q) hby
  have bad:¬lOk P L i→v=.int .i64 321:=fun h=>hbad fun hh=>h (hh i hlt)
  by_cases hf:Fine (gt L i)
  ·rw [decide_eq_true hf] at hrt
   by_cases hmet:(gt L i).id∈(L.take i).map (·.id)
   ·obtain ⟨j,hj⟩:=met_yes (i:=0) hmet
    simp only [n13,r13,h3,h6,h49,h50,h51,hlt,hL',hidx,hld,hw1,hm',hp',hj,hrt,zLl,zL0,zL1,zL2,zL3,zL4,zL5,zL6,zL7,zTa,hlG3,SB,seval,zCa,aOp,zB,aUn,reduceCtorEq,zFr,place,zTu,zRe]
    exact (bad fun h=>h.2.1 hmet).symm
   ·have hj:=met_no (i:=0) hmet
    by_cases hfr:(gt L i).frm∈P
    ·obtain ⟨j1,hj1⟩:=met_yes (i:=0) hfr
     by_cases hds:(gt L i).dst∈P
     ·obtain ⟨j2,hj2⟩:=met_yes (i:=0) hds
      simp only [n13,r13,h3,h6,h49,h50,h51,hlt,hL',hidx,hld,hw1,hm',hp',hj,hj1,hj2,hrt,zLl,zL0,zL1,zL2,zL3,zL4,zL5,zL6,zL7,zTa,hlG2,hlG3,SB,seval,zCa,aOp,zB,aUn,reduceCtorEq,zFr,place,zTu,zRe]
      refine hN (i+1) _ _ ⟨by omega,by exact h3,by exact h6,by exact h49,by exact h50,(by rfl),by simp;omega, ?_, ?_, ?_,fun j hj=>?_⟩ (by omega)
      ·refine hsl.sim fun b ro c hb=>?_
       rw [zHs (by rintro rfl;rw [hml] at hb;cases hb),zHo (zHa hb)];exact hb
      ·rw [zHs (by omega),zHo (zbj hmp)];exact hmp
      ·rw [zbi (by simp;omega),met_add,zb1 hlt,List.map_append];rfl
      ·rcases Nat.lt_or_ge j i with h | h
       ·exact hall j h
       ·obtain rfl:j=i:=by omega
        exact ⟨hf,hmet,hfr,hds⟩
     ·have hj2:=met_no (i:=0) hds
      simp only [n13,r13,h3,h6,h49,h50,h51,hlt,hL',hidx,hld,hw1,hm',hp',hj,hj1,hj2,hrt,zLl,zL0,zL1,zL2,zL3,zL4,zL5,zL6,zL7,zTa,hlG2,hlG3,SB,seval,zCa,aOp,zB,aUn,reduceCtorEq,zFr,place,zTu,zRe]
      exact (bad fun h=>hds h.2.2.2).symm
    ·have hj1:=met_no (i:=0) hfr
     simp only [n13,r13,h3,h6,h49,h50,h51,hlt,hL',hidx,hld,hw1,hm',hp',hj,hj1,hrt,zLl,zL0,zL1,zL2,zL3,zL4,zL5,zL6,zL7,zTa,hlG2,hlG3,SB,seval,zCa,aOp,zB,aUn,reduceCtorEq,zFr,place,zTu,zRe]
     exact (bad fun h=>hfr h.2.2.1).symm
  ·rw [decide_eq_false hf] at hrt
   simp only [n13,r13,h3,h6,h49,h50,h51,hlt,hL',hidx,hld,hw1,hm',hp',hrt,zLl,zL0,zL1,zL2,zL3,zL4,zL5,zL6,zL7,zTa,hlG3,SB,seval,zCa,aOp,zB,aUn,reduceCtorEq,zFr,place,zTu,zRe]
   exact (bad fun h=>hf h.1).symm
 ·obtain rfl:i=L.length:=by omega
  simp only [n13,r13,h3,h6,h49,h50,h51,hlt,SB,seval,zCa,aOp,zB,aUn,reduceCtorEq,zFr,place,zTu,zRe]
  exact hR' _ _ hall
theorem valid_ok [OB] {mp:Bool} {lim:Nat} {pp pl:Option Addr} {P:List Int} {L:List Leg} {cp cl:Nat} {H:zH} {Q:Value→zH→Prop} (hn:NetIn H pp pl P L) :
  za0 E mp lim 13 [.agg (netV pp P.length cp pl L.length cl).toArray] H Q=Q (.int .i64 (za6 P L)) H:=by
 refine pc (by decide) e13 rfl rfl ?_
 rw [b13,c13]
 by_cases h50:50<(P.length:Int)
 ·simp only [n13,r13,zNl,zN0,zN1,h50,SB,seval,zCa,aOp,zB,aUn,reduceCtorEq,zFr,place,zTu,zRe]
  rw [za6,if_pos (by omega)]
 by_cases h200:200<(L.length:Int)
 ·simp only [n13,r13,zNl,zN0,zN1,h50,h200,SB,seval,zCa,aOp,zB,aUn,reduceCtorEq,zFr,place,zTu,zRe]
  rw [za6,if_pos (by omega)]
 simp only [n13,r13,zNl,zN0,zN1,h50,h200,SB,seval,zCa,aOp,zB,aUn,reduceCtorEq,zFr,place,zTu,zRe]
 have hv:za6 P L=if ¬zcx P then 320 else if ¬LegsOk P L then 321 else 0:=by rw [za6,if_neg (by omega)]
 refine zRr (fun i=>P.length-i) (fun i fr G=>i≤P.length∧fr 1=.pointer (some ⟨H.length,0,none⟩)∧fr 3=.map (some (H.length+1))∧fr 24=.slice pp P.length cp∧fr 25=.int .i64 (P.length:Int)∧fr 26=.int .i64 (i:Int)∧
  H.length+1<G.length∧Sl G encI 1 pp P∧Sl G encL 8 pl L∧zG G H.length=.cells false (netV pp P.length cp pl L.length cl)∧zG G (H.length+1)=.map (zd9 (P.take i))∧∀j,j<i→pOk P j) 0
  ⟨Nat.zero_le _,(by rfl),(by rfl),(by rfl),(by rfl),by rfl,by simp,hn.sp.app _,hn.sl.app _,zHn,zHw,fun j hj=>by omega⟩ ?_
 intro i fr G ⟨hi,h1,h3,h24,h25,h26,hL,hsp,hsl,hnv,hm,hall⟩ hN
 rw [zRc l13_2.eq_1]
 refine zRp ?_
 have hnX:=fun X=>(Ext.refl.app (X:=X)).cells hnv
 have hm':∀X,zG (G++X) (H.length+1)=.map (zd9 (P.take i)):=fun X=>by rw [zHo hL];exact hm
 have hL1:H.length≤H.length+1:=by omega
 by_cases hlt:i<P.length
 ·have hld:=fun X=>(hsp.app X).loadCell0 zIl hlt (by decide)
  simp only [encI,List.getElem?_cons_zero] at hld
  have hidx:=fun c (k:IntKind) (H1:zH)=>hsp.idx (c:=c) (k:=k) (H1:=H1) hlt
  have hw1:IntKind.i64.wrap ((i:Int)+1)=((i+1:Nat):Int):=zWn (by omega)
  have bad:¬pOk P i→za6 P L=320:=fun h=>by rw [hv,if_pos fun hh=>h (hh i hlt)]
  by_cases ha:gt P i<1
  ·simp only [n13,r13,h1,h3,h24,h25,h26,hlt,hidx,hld,hw1,hm',ha,SB,seval,zCa,aOp,zB,aUn,reduceCtorEq,zFr,place,zTu,zRe]
   rw [bad fun h=>by have:=h.1;omega]
  ·by_cases hb:999999<gt P i
   ·simp only [n13,r13,h1,h3,h24,h25,h26,hlt,hidx,hld,hw1,hm',ha,hb,SB,seval,zCa,aOp,zB,aUn,reduceCtorEq,zFr,place,zTu,zRe]
    rw [bad fun h=>by have:=h.2.1;omega]
   ·by_cases hmet:gt P i∈P.take i
    ·obtain ⟨j,hj⟩:=met_yes (i:=0) hmet
     simp only [n13,r13,h1,h3,h24,h25,h26,hlt,hidx,hld,hw1,hm',ha,hb,hj,SB,seval,zCa,aOp,zB,aUn,reduceCtorEq,zFr,place,zTu,zRe]
     rw [bad fun h=>h.2.2 hmet]
    ·have hj:=met_no (i:=0) hmet
     simp only [n13,r13,h1,h3,h24,h25,h26,hlt,hidx,hld,hw1,hm',ha,hb,hj,hL1,SB,seval,zCa,aOp,zB,aUn,reduceCtorEq,zFr,place,zTu,zRe]
     have hG2:∀b ro c,zG G b=.cells ro c→zG ((G++[]).set (H.length+1) (.map (zd9 (P.take i)++[(Value.int .i64 (gt P i),Value.bool true)]))) b=.cells ro c:=fun b ro c hb=>by
      rw [zHs (by rintro rfl;rw [hm] at hb;cases hb),zHo (zHa hb)];exact hb
     refine hN (i+1) _ _ ⟨by omega,by exact h1,by exact h3,by exact h24,by exact h25,(by rfl),by simp;omega,hsp.sim hG2,hsl.sim hG2,hG2 _ _ _ hnv, ?_,fun j hj=>?_⟩ (by omega)
     ·rw [zbi (by simp;omega),met_add,zb1 hlt]
     ·rcases Nat.lt_or_ge j i with h | h
      ·exact hall j h
      ·obtain rfl:j=i:=by omega
       exact ⟨by omega,by omega,hmet⟩
 ·obtain rfl:i=P.length:=by omega
  rw [List.take_length] at hm
  have hP:zcx P:=hall
  rw [if_neg (by simpa using hP)] at hv
  simp only [n13,r13,h1,h3,h24,h25,h26,hlt,hnX,zNl,zN0,zN1,SB,seval,zCa,aOp,zB,aUn,reduceCtorEq,zFr,place,zTu,zRe]
  refine valid_legs (H:=H) (R:=H.length) (G:=G) ⟨hsp,hsl,hn.np,hn.nl,hn.bys⟩ hnv hm (Nat.le_refl _) (by exact h1) (by exact h3) (by rfl) (by rfl) (by rfl) (by rfl) (fun h=>by rw [hv,if_pos h]) fun fr' G' h=>?_
  rw [if_neg (by simpa using h)] at hv
  rw [hv]
  simp only [n13,r13,SB,seval,zCa,aOp,zB,aUn,reduceCtorEq,zFr,place,zTu,zRe]
def posV (P:List Int):List (Value×Value):=P.map fun p=>(.int .i64 p,.int .i64 (P.idxOf p:Int))
theorem pos_yes {P:List Int} {a:Int} {i:Nat} (h:a∈P):∃j,findKey (.int .i64 a) (posV P) i=some (some (j,.int .i64 (P.idxOf a:Int))):=by
 unfold posV
 exact findKey_yes (f:=fun k:Int=>k) (g:=fun k=>.int .i64 (P.idxOf k:Int)) ⟨a,h,rfl⟩ fun x _ e=>by rw [e]
theorem pos_no {P:List Int} {a:Int} {i:Nat} (h:a∉P):findKey (.int .i64 a) (posV P) i=some none:=by
 unfold posV
 exact findKey_no (f:=fun k:Int=>k) (g:=fun k=>.int .i64 (P.idxOf k:Int)) fun x hx e=>h (e▸hx)
theorem zcx.idx {P:List Int} (h:zcx P) {i:Nat} (hi:i<P.length):P.idxOf (gt P i)=i:=by
 have h1:=(h i hi).2.2
 have h2:P.idxOf (gt P i)≤i:=by
  rw [zGl hi]
  apply Decidable.byContradiction;intro hc
  have:=List.not_of_lt_findIdx (xs:=P) (p:=(· == P[i])) (i:=i) (by unfold List.idxOf at hc;omega)
  simp at this
 rcases Nat.lt_or_ge (P.idxOf (gt P i)) i with h3 | h3
 ·exfalso
  apply h1
  have hm:gt P i∈P:=zag hi
  have hl:=List.idxOf_lt_length_of_mem hm
  have:=List.getElem_idxOf hl
  rw [List.mem_take_iff_getElem]
  exact ⟨P.idxOf (gt P i),by omega,this⟩
 ·omega
theorem positions_ok [OB] {lim:Nat} {pp pl:Option Addr} {P:List Int} {L:List Leg} {cp cl:Nat} {H:zH} {Q:Value→zH→Prop} (hn:NetIn H pp pl P L) (hP:zcx P) (hlim:lim≤H.length)
  (hQ:∀H',Ext H H'→zG H' (H.length+1)=.map (posV P)→Q (.map (some (H.length+1))) H') :
  za0 E false lim 69 [.agg (netV pp P.length cp pl L.length cl).toArray] H Q:=by
 refine zbq (by decide) e69 rfl ?_
 rw [b69,c69]
 simp only [n69,r69,zNl,zN0,zN1,SB,seval,zCa,aOp,zB,aUn,reduceCtorEq,zFr,place,zTu,zRe]
 refine zRr (fun i=>P.length-i) (fun i fr G=>i≤P.length∧fr 3=.map (some (H.length+1))∧fr 11=.slice pp P.length cp∧fr 12=.int .i64 (P.length:Int)∧fr 13=.int .i64 (i:Int)∧
  H.length+1<G.length∧Ext H G∧zG G (H.length+1)=.map ((P.take i).map fun p=>(.int .i64 p,.int .i64 (P.idxOf p:Int)))) 0
  ⟨Nat.zero_le _,(by rfl),(by rfl),(by rfl),by rfl,by simp,Ext.refl.app,zHw⟩ ?_
 intro i fr G ⟨hi,h3,h11,h12,h13,hL,hE,hm⟩ hN
 rw [zRc l69_1.eq_1]
 refine zRp ?_
 have hm':∀X,zG (G++X) (H.length+1)=.map ((P.take i).map fun p=>(Value.int .i64 p,Value.int .i64 (P.idxOf p:Int))):=fun X=>by rw [zHo hL];exact hm
 have hL1:lim≤H.length+1:=by omega
 by_cases hlt:i<P.length
 ·have hld:=fun X=>((hE.sl hn.sp).app X).loadCell0 zIl hlt (by decide)
  simp only [encI,List.getElem?_cons_zero] at hld
  have hidx:=fun c (k:IntKind) (H1:zH)=>(hE.sl hn.sp).idx (c:=c) (k:=k) (H1:=H1) hlt
  have hw1:IntKind.i64.wrap ((i:Int)+1)=((i+1:Nat):Int):=zWn (by have:=hn.np;omega)
  have hj:findKey (.int .i64 (gt P i)) ((P.take i).map fun p=>(.int .i64 p,.int .i64 (P.idxOf p:Int))) 0=some none:=
   findKey_no (f:=fun k:Int=>k) (g:=fun k=>.int .i64 (P.idxOf k:Int)) fun x hx e=>(hP i hlt).2.2 (e▸hx)
  simp only [n69,r69,h3,h11,h12,h13,hlt,hidx,hld,hw1,hm',hj,hL1,SB,seval,zCa,aOp,zB,aUn,reduceCtorEq,zFr,place,zTu,zRe]
  refine hN (i+1) _ _ ⟨by omega,by exact h3,by exact h11,by exact h12,(by rfl),by simp;omega, ?_, ?_⟩ (by omega)
  ·obtain ⟨Y,rfl⟩:=hE
   exact ⟨(Y++[]).set 1 _,by rw [List.append_assoc];exact set_new⟩
  ·rw [zbi (by simp;omega),zb1 hlt,List.map_append]
   simp only [List.map_cons,List.map_nil,hP.idx hlt]
 ·obtain rfl:i=P.length:=by omega
  rw [List.take_length] at hm
  simp only [n69,r69,h3,h11,h12,h13,hlt,SB,seval,zCa,aOp,zB,aUn,reduceCtorEq,zFr,place,zTu,zRe]
  refine hQ _ hE.app ?_
  rw [zHo hL];exact hm
def errA (P:List Int) (L:List Leg) (a b t:Int):Int:=if za6 P L≠0 then za6 P L else if a∈P∧b∈P∧0≤t∧t≤za1 then 0 else 2
theorem zdi {P:List Int} {L:List Leg} (h:za6 P L=0):P.length≤50∧L.length≤200∧zcx P∧LegsOk P L:=by
 unfold za6 at h
 split at h
 ·cases h
 ·split at h
  ·cases h
  ·split at h
   ·cases h
   ·rename_i h1 h2 h3
    exact ⟨by omega,by omega,by simpa using h2,by simpa using h3⟩
theorem errA_0 {P:List Int} {L:List Leg} {a b t:Int} (h:errA P L a b t=0):za6 P L=0∧a∈P∧b∈P∧0≤t∧t≤za1:=by
 unfold errA at h
 split at h
 ·contradiction
 ·rename_i hv
  split at h
  ·rename_i hh;exact ⟨by simpa using hv,hh⟩
  ·cases h
theorem allowedR_ok [OB] {lim:Nat} {pp pl:Option Addr} {P:List Int} {L:List Leg} {cp cl:Nat} {a b t:Int} {H:zH} {Q:Value→zH→Prop} (hn:NetIn H pp pl P L) (hlim:lim≤H.length)
  (hbad:∀H',errA P L a b t≠0→Ext H H'→Q (.tuple #[.map none,.int .i64 (errA P L a b t)]) H')
  (hok:∀H' R,errA P L a b t=0→Ext H H'→zG H' R=.map (posV P)→H.length≤R→Q (.tuple #[.map (some R),.int .i64 0]) H') :
  za0 E false lim 42 [.agg (netV pp P.length cp pl L.length cl).toArray,.int .i64 a,.int .i64 b,.int .i64 t] H Q:=by
 refine zbq (by decide) e42 rfl ?_
 rw [b42,c42]
 have hv:=fun X (mp:Bool) (lim:Nat) (Q:Value→zH→Prop)=>valid_ok (mp:=mp) (lim:=lim) (cp:=cp) (cl:=cl) (Q:=Q) (hn.app X)
 by_cases h0:za6 P L=0
 ·have h0':¬(za6 P L≠0):=by simpa using h0
  obtain ⟨v1,v2,v3,v4⟩:=zdi h0
  rw [h0] at hv
  simp only [n42,r42,hv,zNl,zN0,zN1,zTa,SB,seval,zCa,aOp,zB,aUn,reduceCtorEq,zFr,place,zTu,zRe]
  refine positions_ok (hn.app _) v3 (by simp;omega) fun H' hE hm=>?_
  have hEH:Ext H H':=by obtain ⟨Y,rfl⟩:=hE;rw [List.append_assoc];exact Ext.refl.app
  simp only [List.length_append,List.length_cons,List.length_nil,Nat.zero_add,Nat.add_assoc,Nat.reduceAdd] at hm⊢
  have hl:=zbj hm
  have hm':∀X,zG (H'++X) (H.length+2)=.map (posV P):=fun X=>by rw [zHo hl];exact hm
  refine zRp ?_
  have e2:¬(a∈P∧b∈P∧0≤t∧t≤za1)→errA P L a b t=2:=fun h=>by rw [errA,if_neg h0',if_neg h]
  by_cases ha:a∈P
  ·obtain ⟨j1,hj1⟩:=pos_yes (i:=0) ha
   by_cases hb:b∈P
   ·obtain ⟨j2,hj2⟩:=pos_yes (i:=0) hb
    by_cases ht:t<0
    ·have he:=e2 fun h=>by omega
     simp only [n42,r42,hm',hj1,hj2,ht,SB,seval,zCa,aOp,zB,aUn,reduceCtorEq,zFr,place,zTu,zRe]
     rw [←he];exact hbad _ (by rw [he];decide) hEH.app
    ·by_cases ht2:1051898399<t
     ·have he:=e2 fun h=>by unfold za1 at h;omega
      simp only [n42,r42,hm',hj1,hj2,ht,ht2,SB,seval,zCa,aOp,zB,aUn,reduceCtorEq,zFr,place,zTu,zRe]
      rw [←he];exact hbad _ (by rw [he];decide) hEH.app
     ·have he:errA P L a b t=0:=by rw [errA,if_neg h0',if_pos ⟨ha,hb,by omega,by unfold za1;omega⟩]
      simp only [n42,r42,hm',hj1,hj2,ht,ht2,SB,seval,zCa,aOp,zB,aUn,reduceCtorEq,zFr,place,zTu,zRe]
      exact hok _ _ he hEH.app (hm' []) (by omega)
   ·have hj2:=pos_no (i:=0) hb
    have he:=e2 fun h=>hb h.2.1
    simp only [n42,r42,hm',hj1,hj2,SB,seval,zCa,aOp,zB,aUn,reduceCtorEq,zFr,place,zTu,zRe]
    rw [←he];exact hbad _ (by rw [he];decide) hEH.app
  ·have hj1:=pos_no (i:=0) ha
   have he:=e2 fun h=>ha h.1
   by_cases hb:b∈P
   ·obtain ⟨j2,hj2⟩:=pos_yes (i:=0) hb
    simp only [n42,r42,hm',hj1,hj2,SB,seval,zCa,aOp,zB,aUn,reduceCtorEq,zFr,place,zTu,zRe]
    rw [←he];exact hbad _ (by rw [he];decide) hEH.app
   ·have hj2:=pos_no (i:=0) hb
    simp only [n42,r42,hm',hj1,hj2,SB,seval,zCa,aOp,zB,aUn,reduceCtorEq,zFr,place,zTu,zRe]
    rw [←he];exact hbad _ (by rw [he];decide) hEH.app
 ·have he:errA P L a b t=za6 P L:=by rw [errA,if_pos h0]
  simp only [n42,r42,hv,zNl,zN0,zN1,zTa,h0,eq_false h0,SB,seval,zCa,aOp,zB,aUn,reduceCtorEq,zFr,place,zTu,zRe]
  rw [←he];exact hbad _ (by rw [he];exact h0) Ext.refl.app
def posN (P:List Int):Int→Nat:=fun p=>P.idxOf p
theorem ze1 {P:List Int} {L:List Leg} (h:za6 P L=0):NetOk 50 P L (posN P):=by
 obtain ⟨h1,h2,h3,h4⟩:=zdi h
 have key:∀l∈L,Fine l∧l.frm∈P∧l.dst∈P:=fun l hl=>by
  obtain ⟨i,hi,rfl⟩:=List.mem_iff_getElem.1 hl
  have:=h4 i hi
  unfold lOk at this
  rw [zGl hi] at this
  exact ⟨this.1,this.2.2⟩
 refine ⟨fun l hl=>(key l hl).1,fun l hl=>(key l hl).2.1,fun l hl=>(key l hl).2.2,fun a ha b hb e=>?_,fun a ha=>?_⟩
 ·have h1:=List.getElem_idxOf (List.idxOf_lt_length_of_mem ha)
  have h2:=List.getElem_idxOf (List.idxOf_lt_length_of_mem hb)
  rw [←h1,←h2]
  congr 1
 ·have:=List.idxOf_lt_length_of_mem ha
  show P.idxOf a<50
  omega
def placeN (P:List Int) (p:Int):Int:=if p∈P then (posN P p:Int) else -1
theorem placeN_nn {P:List Int} {p:Int}:0≤placeN P p↔p∈P:=by
 unfold placeN;split
 ·rename_i h;exact ⟨fun _=>h,fun _=>by omega⟩
 ·rename_i h;exact ⟨fun hh=>by omega,fun hh=>absurd hh h⟩
theorem zdx {H:zH} {q:Option Addr} {T:List Int} {i:Nat} (h:Sl H encI 1 q T) (hi:i<T.length):∀X,AM.loadCell (H++X) (elt q 1 i)=some (.int .i64 (gt T i)):=fun X=>by
 rw [(h.app X).loadCell0 zIl hi (by decide)];rfl
theorem ix_ints {H:zH} {q:Option Addr} {T:List Int} {i n:Nat} (h:Sl H encI 1 q T) (hi:i<n) (hT:T.length=n):∀(c:Nat) (k:IntKind) (H1:zH),idxK 1 (.slice q n c) (.int k (i:Int)) H1=some (.pointer (some (elt q 1 i)),H1):=fun c k H1=>by
 subst hT;exact h.idx hi
def opB (p:Option Addr):List Nat:=match p with
 | none=>[]
 | some a=>[a.block]
theorem Own.moreF {α:Type} {lim lim' e bytes cap:Nat} {G:zH} {enc:α→List Value} {p:Option Addr} {l:List α} (h:Own lim G enc e p cap l) (hll:lim'≤lim) (he:∀x,(enc x).length=e) (he0:e≠0) (m:List α) (hm:m≠[]) (hb:(l.length+m.length)*bytes≤za3) (hn:l.length+m.length<2 ^ 61)
  (X:zH) {x:Value} {str:Bool} (h1:firstCells (G++X) e str x=some (m.flatMap enc)) (h2:lenOf x=some m.length) :
  ∃G2,zAa lim' none e bytes str (.slice p l.length cap) x (G++X)=some (.slice (some ⟨(G++X).length,0,none⟩) (l.length+m.length) (loose e),G2++[])∧Own G.length G2 enc e (some ⟨(G++X).length,0,none⟩) (loose e) (l++m)∧Chg (opB p) G G2∧(G++X).length<G2.length:=by
 have hm0:¬m.length=0:=fun q=>hm (List.length_eq_zero_iff.1 q)
 rcases h with ⟨k1,k2,k3⟩ | ⟨R,k1,k2,k3,k4⟩
 ·subst k1 k2 k3
  refine ⟨G++(X++[.cells false (m.flatMap enc)]), ?_, ?_,Chg.refl.app,by simp⟩
  ·simp only [List.length_nil,Nat.zero_add] at hb hn⊢
   simp only [zAa,h1,h2,hm0,if_false,Nat.zero_add]
   rw [if_neg (by omega)]
   simp [place]
  ·rw [List.nil_append]
   refine Own.new ?_ (by simp)
   rw [←List.append_assoc];exact zHn
 ·subst k1 k2
  have hRl:=zHa k3
  have hR':zG (G++X) R=.cells false (l.flatMap enc):=by rw [zHo hRl];exact k3
  have hold:AM.loadCells (G++X) ⟨R,0,none⟩ (l.length*e)=some (l.flatMap enc):=by
   simp only [za2,hR',Nat.zero_add,zaa he,Nat.le_refl,if_true,List.drop_zero]
   rw [List.take_of_length_le (by rw [zaa he];exact Nat.le_refl _)]
  have hmt:Mut G (G.set R .dead) R:=⟨by simp,fun j hj=>zHs hj⟩
  refine ⟨G.set R .dead++(X++[.cells false ((l++m).flatMap enc)]), ?_, ?_,(Chg.refl.mut hmt (.inl (by simp [opB]))).app,by simp⟩
  ·simp only [zAa,h1,h2,hold,hR',hm0,if_false,if_true]
   rw [if_neg (by unfold loose;omega)]
   simp [show lim'≤R by omega,place,List.set_append_left _ _ hRl,List.append_assoc]
  ·refine Own.new ?_ (by simp)
   rw [←List.append_assoc,show (G++X).length=(G.set R .dead++X).length by simp];exact zHn
theorem field_mut {α:Type} [Inhabited α] {G:zH} {enc:α→List Value} {e:Nat} {l:List α} {lim S:Nat} (he:∀x,(enc x).length=e) (hS:zG G S=.cells false (l.flatMap enc)) (hl:lim≤S) {i j:Nat} (hi:i<l.length) (hj:j<e) {v:Value} (y:α) (hy:enc y=(enc (gt l i)).set j v) :
  ∃G',(∀X,AM.storeAt lim (G++X) ((elt (some ⟨S,0,none⟩) e i).add j) [v]=some (G'++X))∧zG G' S=.cells false ((l.set i y).flatMap enc)∧Mut G G' S:=by
 obtain ⟨G',h1,h2,h3⟩:=za4 (zHa hS) (.cells false ((l.set i y).flatMap enc))
 refine ⟨G',fun X=>?_,h2,h3⟩
 have h4:i*e+e≤l.length*e:=by
  have:=Nat.mul_le_mul_right e (Nat.succ_le_of_lt hi)
  rw [Nat.succ_mul] at this;exact this
 have hS':zG (G++X) S=.cells false (l.flatMap enc):=by rw [zHo (zHa hS)];exact hS
 simp only [elt,addrOf,Option.getD_some,zay,zc8,hS',Nat.zero_add,List.length_singleton]
 rw [if_pos ⟨hl,by rw [zaa he];omega⟩,←h1]
 congr 3
 show (l.flatMap enc).set (i*e+j) v=_
 clear h1 h2 h3 hS hS' h4
 induction l generalizing i with
 | nil=>simp at hi
 | cons x l ih=>
   cases i with
   | zero=>
     rw [gt_cons_zero] at hy
     rw [Nat.zero_mul,Nat.zero_add,List.set_cons_zero,List.flatMap_cons,List.flatMap_cons,List.set_append_left _ _ (by rw [he];exact hj),hy]
   | succ i=>
     rw [zGc] at hy
     rw [List.set_cons_succ,List.flatMap_cons,List.flatMap_cons,List.set_append_right _ _ (by rw [he,Nat.succ_mul];omega),he,show (i+1)*e+j-e=i*e+j by rw [Nat.succ_mul];omega,ih (by simpa using hi) hy]
section
variable {G:zH} {pp pl:Option Addr} {P:List Int} {L:List Leg}
theorem NetIn.sim {H:zH} (h:NetIn H pp pl P L) (hk:∀b ro c,zG H b=.cells ro c→zG G b=.cells ro c):NetIn G pp pl P L:=⟨h.sp.sim hk,h.sl.sim hk,h.np,h.nl,h.bys⟩
end
def pickN (a n:Int):Int:=if n<1 then 0 else if Int.tmod a n<0 then Int.tmod a n+n else Int.tmod a n
theorem pickN_range {a n:Int} (h:1≤n):0≤pickN a n∧pickN a n<n:=by
 unfold pickN
 rw [if_neg (by omega)]
 have h1:=Int.lt_tmod_of_pos a (show 0<n by omega)
 have h2:=Int.tmod_lt_of_pos a (show 0<n by omega)
 split<;>omega
theorem pick_ok [OB] {mp:Bool} {lim:Nat} {a n:Int} {H:zH} {Q:Value→zH→Prop} (hn:n<2 ^ 62):za0 E mp lim 16 [.int .i64 a,.int .i64 n] H Q=Q (.int .i64 (pickN a n)) H:=by
 refine pc (by decide) e16 rfl rfl ?_
 rw [b16,c16]
 by_cases h1:n<1
 ·simp only [n16,r16,h1,SB,seval,zCa,aOp,zB,aUn,reduceCtorEq,zFr,place,zTu,zRe]
  rw [pickN,if_pos h1]
 ·have h0:¬n=0:=by omega
  by_cases h2:Int.tmod a n<0
  ·have hr:=pickN_range (a:=a) (show 1≤n by omega)
   rw [pickN,if_neg h1,if_pos h2] at hr
   have w:IntKind.i64.wrap (Int.tmod a n+n)=Int.tmod a n+n:=zWi (by omega) (by omega)
   simp only [n16,r16,h1,h0,h2,w,SB,seval,zCa,aOp,zB,aUn,reduceCtorEq,zFr,place,zTu,zRe]
   rw [pickN,if_neg h1,if_pos h2]
  ·simp only [n16,r16,h1,h0,h2,SB,seval,zCa,aOp,zB,aUn,reduceCtorEq,zFr,place,zTu,zRe]
   rw [pickN,if_neg h1,if_neg h2]
theorem same_step {α:Type} [Inhabited α] {a b:List α} {i:Nat} (hl:a.length=b.length) (hi:i<a.length) (hall:∀j,j<i→gt a j=gt b j) (he:gt a i=gt b i):∀j,j<i+1→gt a j=gt b j:=fun j hj=>by
 rcases Nat.lt_or_ge j i with h | h
 ·exact hall j h
 ·obtain rfl:j=i:=by omega
  exact he
theorem same_all {α:Type} [Inhabited α] {a b:List α} (hl:a.length=b.length) (hall:∀j,j<a.length→gt a j=gt b j):a=b:=by
 apply List.ext_getElem hl
 intro i h1 h2
 have:=hall i h1
 rwa [zGl h1,zGl h2] at this
theorem sameints_ok [OB] {mp:Bool} {lim ca cb:Nat} {p q:Option Addr} {a b:List Int} {H:zH} {Q:Value→zH→Prop} (ha:Sl H encI 1 p a) (hb:Sl H encI 1 q b) (hn:a.length<2 ^ 62) :
  za0 E mp lim 24 [.slice p a.length ca,.slice q b.length cb] H Q=Q (.bool (decide (a=b))) H:=by
 refine pc (by decide) e24 rfl rfl ?_
 rw [b24,c24]
 by_cases hl:a.length=b.length
 case neg=>
  have h1:¬(a.length:Int)=(b.length:Int):=by omega
  simp only [n24,r24,eq_false h1,SB,seval,zCa,aOp,zB,aUn,reduceCtorEq,zFr,place,zTu,zRe]
  congr 1
  rw [eq_comm,decide_eq_false_iff_not]
  rintro rfl
  exact hl rfl
 have h1:(a.length:Int)=(b.length:Int):=by omega
 simp only [n24,r24,eq_true h1,SB,seval,zCa,aOp,zB,aUn,reduceCtorEq,zFr,place,zTu,zRe]
 refine zRr (fun j=>a.length-j) (fun j fr G=>j≤a.length∧fr 0=.slice p a.length ca∧fr 1=.slice q b.length cb∧fr 5=.int .i64 (j:Int)∧Ext H G∧∀i,i<j→gt a i=gt b i) 0 ⟨Nat.zero_le _,(by rfl),(by rfl),by rfl,Ext.refl.app,fun i hi=>by omega⟩ ?_
 intro j fr G ⟨hj,f0,f1,f5,hE,hall⟩ hN
 rw [zRc l24_1.eq_1]
 refine zRp ?_
 by_cases hlt:j<a.length
 case neg=>
  obtain rfl:j=a.length:=by omega
  simp only [n24,r24,f0,f1,f5,hlt,SB,seval,zCa,aOp,zB,aUn,reduceCtorEq,zFr,place,zTu,zRe]
  rw [decide_eq_true (same_all hl hall)]
 have l1:=fun X=>((hE.sl ha).app X).loadCell0 zIl hlt (by decide)
 have l2:=fun X=>((hE.sl hb).app X).loadCell0 zIl (by omega:j<b.length) (by decide)
 simp only [encI,List.getElem?_cons_zero] at l1 l2
 have x1:=fun c (kk:IntKind) (H1:zH)=>(hE.sl ha).idx (c:=c) (k:=kk) (H1:=H1) hlt
 have x2:=fun c (kk:IntKind) (H1:zH)=>(hE.sl hb).idx (c:=c) (k:=kk) (H1:=H1) (by omega:j<b.length)
 have hw1:IntKind.i64.wrap ((j:Int)+1)=((j+1:Nat):Int):=zWn (by omega)
 by_cases he:gt a j=gt b j
 ·simp only [n24,r24,f0,f1,f5,hlt,l1,l2,x1,x2,hw1,eq_true he,SB,seval,zCa,aOp,zB,aUn,reduceCtorEq,zFr,place,zTu,zRe]
  exact hN (j+1) _ _ ⟨by omega,by exact f0,by exact f1,(by rfl),hE.app,same_step hl hlt hall he⟩ (by omega)
 ·simp only [n24,r24,f0,f1,f5,hlt,l1,l2,x1,x2,hw1,eq_false he,SB,seval,zCa,aOp,zB,aUn,reduceCtorEq,zFr,place,zTu,zRe]
  rw [decide_eq_false]
  rintro rfl
  exact he rfl
end Go.Proofs.YtohnaffmcjbpoaaGreat.Fn

namespace Go.Proofs.YtohnaffmcjbpoaaGreat.Fn
open Go.AM Go.AM.Sym Go.Net Go.Flow
def enc2 (x:Int×Int):List Value:=[.int .i64 x.1,.int .i64 x.2]
theorem z2l (x:Int×Int):(enc2 x).length=2:=id rfl
def encN (n:Nat):List Value:=[.int .i64 (n:Int)]
theorem zbf (n:Nat):(encN n).length=1:=id rfl
abbrev Ref:=Option Addr×Nat×Nat
def encO (x:Ref):List Value:=[.slice x.1 x.2.1 x.2.2]
theorem encO_len (x:Ref):(encO x).length=1:=id rfl
def zbr (l:List Pr):List (Int×Int):=l.flatMap fun p=>[((p.head:Int),p.room),((p.tail:Int),p.flow)]
theorem zah:∀{l:List Pr},(zbr l).length=2*l.length
 | []=>rfl
 | p::l=>by
   have:=zah (l:=l)
   unfold zbr at this⊢
   rw [List.flatMap_cons,List.length_append,this];simp;omega
theorem arcsV_gt:∀{l:List Pr} {i:Nat},i / 2<l.length→gt (zbr l) i=((hd l i:Int),rm l i)
 | p::l,0,_=>rfl
 | p::l,1,_=>rfl
 | p::l,i+2,h=>by
   have ih:=arcsV_gt (l:=l) (i:=i) (by simp at h;omega)
   have e:zbr (p::l)=((p.head:Int),p.room)::((p.tail:Int),p.flow)::zbr l:=rfl
   rw [e,zGc,zGc,ih]
   have h1:(i+2) / 2=i / 2+1:=by omega
   have h2:(i+2) % 2=i % 2:=by omega
   unfold hd rm
   rw [h1,h2,zGc]
theorem arcsV_set:∀{l:List Pr} {i:Nat} {d:Int},i / 2<l.length→((zbr l).set i ((hd l i:Int),rm l i-d)).set (tw i) ((hd l (tw i):Int),rm l (tw i)+d)=zbr (zbu l i d)
 | p::l,0,d,_=>rfl
 | p::l,1,d,_=>by
   show ((p.head:Int),p.room+d)::((p.tail:Int),p.flow-d)::zbr l=((p.head:Int),p.room - -d)::((p.tail:Int),p.flow+-d)::zbr l
   rw [Int.sub_neg,Int.sub_eq_add_neg]
 | p::l,i+2,d,h=>by
   have ih:=arcsV_set (l:=l) (i:=i) (d:=d) (by simp at h;omega)
   have e:∀(p:Pr) l,zbr (p::l)=((p.head:Int),p.room)::((p.tail:Int),p.flow)::zbr l:=fun _ _=>rfl
   have h1:∀j,(j+2) / 2=j / 2+1:=fun j=>by omega
   have h2:∀j,(j+2) % 2=j % 2:=fun j=>by omega
   have h3:tw (i+2)=tw i+2:=by unfold tw;rw [h2];split<;>omega
   have h4:∀j,hd (p::l) (j+2)=hd l j∧rm (p::l) (j+2)=rm l j:=fun j=>by
    unfold hd rm
    rw [h1,h2,zGc];exact ⟨rfl,rfl⟩
   have h5:zbu (p::l) (i+2) d=p::zbu l i d:=by
    unfold zbu
    rw [h1,h2,zGc,List.set_cons_succ]
   rw [h3,(h4 i).1,(h4 i).2,(h4 (tw i)).1,(h4 (tw i)).2,h5,e,e,List.set_cons_succ,List.set_cons_succ,List.set_cons_succ,List.set_cons_succ,ih]
structure Stays (Ba Bn A:Nat) (G:zH) (w:List Value) (pv po:Option Addr) (cv co:Nat) (ols:List Ref) (out:List (List Nat)) (L:List Int) (na ca nn cn:Nat):Prop where
 hdr:w.length=8∧w[2]? = some (.slice (some ⟨Ba,0,none⟩) na ca)∧w[3]? = some (.slice po out.length co)∧w[4]? = some (.slice pv L.length cv)∧w[5]? = some (.slice (some ⟨Bn,0,none⟩) nn cn)
 keep:∀G',Chg [Ba,Bn] G G'→zG G' A=.cells false w∧Sl G' encI 1 pv L∧Sl G' encO 1 po ols∧∀v,v<out.length→Sl G' encN 1 (gt ols v).1 (gt out v)
 len:ols.length=out.length∧L.length=out.length
 cut:∀v,v<out.length→(gt ols v).2.1=(gt out v).length
theorem Stays.chg {Ba Bn A:Nat} {G G':zH} {w:List Value} {pv po:Option Addr} {cv co:Nat} {ols:List Ref} {out:List (List Nat)} {L:List Int} {na ca nn cn:Nat} (h:Stays Ba Bn A G w pv po cv co ols out L na ca nn cn) (hc:Chg [Ba,Bn] G G'):Stays Ba Bn A G' w pv po cv co ols out L na ca nn cn:=
 ⟨h.hdr,fun G2 h2=>h.keep G2 (hc.trans h2),h.len,h.cut⟩
theorem lvF_gt {L:List Int} {v:Nat} (h:v<L.length):gt L v=lvF L v:=by
 rw [zGl h];unfold lvF;rw [List.getD_eq_getElem?_getD,List.getElem?_eq_getElem h];rfl
theorem xor_tw (n:Nat):n ^^^ 1=tw n:=by
 have h1:(n ^^^ 1) / 2=n / 2:=by rw [Nat.xor_div_two];simp
 have h2:(n ^^^ 1) % 2=(n+1) % 2:=by
  have h3:=Nat.testBit_xor n 1 0
  rw [Nat.testBit_zero,Nat.testBit_zero,Nat.testBit_zero] at h3
  rcases Nat.mod_two_eq_zero_or_one n with h | h<;>rcases Nat.mod_two_eq_zero_or_one (n ^^^ 1) with h4 | h4<;>rw [h,h4] at h3<;>first | omega | simp at h3
 unfold tw
 split<;>omega
theorem xor_v {n:Nat} (h:n<2 ^ 60):IntKind.i64.wrap ((BitVec.ofInt 64 (n:Int) ^^^ BitVec.ofInt 64 1).toNat:Int)=(tw n:Int):=by
 have e1:BitVec.ofInt 64 (n:Int)=BitVec.ofNat 64 n:=by simp
 have e2:BitVec.ofInt 64 1=BitVec.ofNat 64 1:=rfl
 have h1:tw n<2 ^ 61:=by unfold tw;split<;>omega
 rw [e1,e2,BitVec.toNat_xor,BitVec.toNat_ofNat,BitVec.toNat_ofNat,Nat.mod_eq_of_lt (by omega),Nat.mod_eq_of_lt (by omega),xor_tw]
 exact zWi (by omega) (by omega)
theorem ld_N {H:zH} {q:Option Addr} {T:List Nat} {i:Nat} (h:Sl H encN 1 q T) (hi:i<T.length):∀X,AM.loadCell (H++X) (elt q 1 i)=some (.int .i64 ((gt T i:Nat):Int)):=fun X=>by
 rw [(h.app X).loadCell0 zbf hi (by decide)];rfl
theorem ix_N {α:Type} {enc:α→List Value} {e:Nat} {H:zH} {q:Option Addr} {T:List α} {i n:Nat} (h:Sl H enc e q T) (hi:i<n) (hT:T.length=n):∀(c:Nat) (k:IntKind) (H1:zH),idxK e (.slice q n c) (.int k (i:Int)) H1=some (.pointer (some (elt q e i)),H1):=fun c k H1=>by
 subst hT;exact h.idx hi
theorem ld_O {H:zH} {q:Option Addr} {T:List Ref} {i:Nat} (h:Sl H encO 1 q T) (hi:i<T.length):∀X,AM.loadCell (H++X) (elt q 1 i)=some (.slice (gt T i).1 (gt T i).2.1 (gt T i).2.2):=fun X=>by
 rw [(h.app X).loadCell0 encO_len hi (by decide)];rfl
section
variable {lim Ba Bn A:Nat} {w:List Value} {pv po:Option Addr} {cv co:Nat} {ols:List Ref} {out:List (List Nat)} {L:List Int} {na ca nn cn:Nat} {M:Int}
theorem send_ok [OB] (hla:lim≤Ba) (hln:lim≤Bn) (hab:Ba≠Bn) (hM:∀v,lvF L v≤M) (hlo:∀v,-20000≤lvF L v) (hout:out.length<2 ^ 40) :
  ∀(m:Nat) (v:Nat) (g:Int) (l:List Pr) (nx:List Nat) (G:zH) (Q:Value→zH→Prop),(M-lvF L v).toNat<m→v<out.length→0<g→g≤big→OutOk l out→Done out (lvF L) l nx→(∀i,i / 2<l.length→0≤rm l i∧rm l i+rm l (tw i)≤big)→nx.length=out.length→nn=nx.length→na=2*l.length→l.length<2 ^ 40→(∀u,(gt out u).length<2 ^ 40)→(∀u,gt nx u≤(gt out u).length)→
   Stays Ba Bn A G w pv po cv co ols out L na ca nn cn→zG G Ba=.cells false ((zbr l).flatMap enc2)→zG G Bn=.cells false (nx.flatMap encN)→
   (∀s l' nx' G',Sent out (lvF L) v g l nx s l' nx'→Chg [Ba,Bn] G G'→zG G' Ba=.cells false ((zbr l').flatMap enc2)→zG G' Bn=.cells false (nx'.flatMap encN)→Q (.int .i64 s) G')→
   za0 E false lim 64 [.pointer (some ⟨A,0,none⟩),.int .i64 (v:Int),.int .i64 g] G Q:=by
 intro m
 induction m with
 | zero=>intro v g l nx G Q hm;omega
 | succ m ih=>
   intro v g l nx G Q hm hv hg hgb ho hD hr hnx hnn hna hl40 ho40 hnxb hS hA hN hQ
   refine zbq (by decide) e64 rfl ?_
   rw [b64,c64]
   by_cases h1:v=1
   ·have h1':(v:Int)=1:=by omega
    simp only [n64,r64,eq_true h1',SB,seval,zCa,aOp,zB,aUn,reduceCtorEq,zFr,place,zTu,zRe]
    subst h1
    exact hQ g l nx _ (.fin _ _ (by omega) (fun i hi=>(hr i hi).1) hD) Chg.refl.app ((Ext.refl.app).cells hA) ((Ext.refl.app).cells hN)
   have h1':¬(v:Int)=1:=by omega
   simp only [n64,r64,eq_false h1',SB,seval,zCa,aOp,zB,aUn,reduceCtorEq,zFr,place,zTu,zRe]
   obtain ⟨w8,w2,w3,w4,w5⟩:=hS.hdr
   have bigv:big=1152921504606846976:=rfl
   refine zRr (fun x:Int×List Pr×List Nat=>(gt out v).length-gt x.2.2 v) (fun x fr G'=>fr 0=.pointer (some ⟨A,0,none⟩)∧fr 1=.int .i64 (v:Int)∧fr 2=.int .i64 g∧fr 7=.func (.func 64) #[.pointer (some ⟨A,0,none⟩)] #[]∧fr 8=.int .i64 x.1∧Chg [Ba,Bn] G G'∧zG G' Ba=.cells false ((zbr x.2.1).flatMap enc2)∧zG G' Bn=.cells false (x.2.2.flatMap encN)∧Mid out (lvF L) v g l nx x.1 x.2.1 x.2.2) (0,l,nx)
    ⟨(by rfl),(by rfl),(by rfl),(by rfl),by rfl,Chg.refl.app,(Ext.refl.app).cells hA,(Ext.refl.app).cells hN,.start _ _ hg (fun i hi=>(hr i hi).1) hD⟩ ?_
   rintro ⟨s,l1,nx1⟩ fr G1 ⟨f0,f1,f2,f7,f8,hC,hA1,hN1,hMd⟩ hNx
   simp only at f8 hA1 hN1 hMd
   rw [zRc l64_1.eq_1]
   have hS1:=hS.chg hC
   obtain ⟨bA,sV,sO,sU⟩:=hS1.keep G1 Chg.refl
   obtain ⟨len1,len2⟩:=hS.len
   have bAX:=fun X=>(Ext.refl.app (X:=X)).cells bA
   have sN:Sl G1 encN 1 (some ⟨Bn,0,none⟩) nx1:=Sl.row zbf hN1
   have sA:Sl G1 enc2 2 (some ⟨Ba,0,none⟩) (zbr l1):=Sl.row z2l hA1
   have nxl1:nx1.length=nn:=by rw [hMd.nxlen,hnn]
   have l1l:l1.length=l.length:=hMd.same.len
   have lN:=ld_N (i:=v) sN (by omega)
   have xN:=ix_N (i:=v) (n:=nn) sN (by omega) nxl1
   have lO:=ld_O (i:=v) sO (by omega)
   have xO:=ix_N (i:=v) (n:=out.length) sO hv len1
   have ecut:=hS.cut v hv
   rw [ecut] at lO
   have hbk:gt nx1 v≤(gt out v).length:=by have:=hMd.bnd v;have:=hnxb v;unfold outs at *;omega
   generalize hk:gt nx1 v=k at *
   refine zRp ?_
   by_cases hlt:k<(gt out v).length
   case neg=>
    have hlt':¬(k:Int)<((gt out v).length:Int):=by omega
    simp only [n64,r64,f0,f1,f2,f7,f8,bAX,w2,w3,w4,w5,lN,xN,lO,xO,hlt,SB,seval,zCa,aOp,zB,aUn,reduceCtorEq,zFr,place,zTu,zRe]
    exact hQ s l1 nx1 _ (hMd.stop h1 (by unfold outs;omega)) hC.app ((Ext.refl.app).cells hA1) ((Ext.refl.app).cells hN1)
   obtain ⟨a,hga⟩:∃a,a=gt (gt out v) k:=⟨_,rfl⟩
   have ham:a∈Flow.outs out v:=by rw [hga];exact zag hlt
   have hgo:gt (Flow.outs out v) k=a:=hga.symm
   have ho1:=ho.alike hMd.same
   obtain ⟨o1,o2,o3⟩:=ho1.ok v a ham
   have hal:a / 2<l.length:=by omega
   have lU:=ld_N (sU v hv) hlt
   have xU:=ix_N (sU v hv) hlt rfl
   rw [←hga] at lU
   have lA:=fun X=>(sA.app X).loadCells z2l (i:=a) (by rw [zah];omega)
   have xA:=ix_N (i:=a) (n:=na) sA (by omega) (by rw [zah];omega)
   simp only [arcsV_gt o1,enc2] at lA
   have hlG1:lim≤G1.length:=by have:=zHa hA1;omega
   have lV1:=zdx (i:=hd l1 a) sV (by omega)
   have xV1:=ix_N (i:=hd l1 a) (n:=L.length) sV (by omega) rfl
   have lV2:=zdx (i:=v) sV (by omega)
   have xV2:=ix_N (i:=v) (n:=L.length) sV (by omega) rfl
   rw [lvF_gt (by omega)] at lV1 lV2
   have hra:=hr a hal
   have cap1:rm l1 a+rm l1 (tw a)=rm l a+rm l (tw a):=hMd.same.cap a hal
   have nn1:=hMd.nn a hal
   have nn2:=hMd.nn (tw a) (by rw [tw_half];exact hal)
   have wk:IntKind.i64.wrap ((k:Int)+1)=((k+1:Nat):Int):=zWn (by have:=ho40 v;omega)
   by_cases hrm:0<rm l1 a∧lvF L v<lvF L (hd l1 a)
   case neg=>
    have hmu:=hMd.skip (k:=k) (by omega) hk (by unfold Flow.outs;omega) (by rw [hgo];exact hrm)
    obtain ⟨G3,e3,k3,m3⟩:=zd4 (lim:=lim) (p:=some ⟨Bn,0,none⟩) (i:=v) zbf rfl hN1 hln (by omega) (k+1)
    simp only [encN] at e3
    have hC3:Chg [Ba,Bn] G G3:=hC.mut m3 (.inl (by simp))
    by_cases hr1:0<rm l1 a
    ·have hr2:¬lvF L v<lvF L (hd l1 a):=fun h=>hrm ⟨hr1,h⟩
     simp only [n64,r64,f0,f1,f2,f7,f8,bAX,w2,w3,w4,w5,lN,xN,lO,xO,hlt,lU,xU,lA,xA,hlG1,zSa,lV1,xV1,lV2,xV2,wk,eq_true hr1,eq_false hr2,e3,SB,seval,zCa,aOp,zB,aUn,reduceCtorEq,zFr,place,zTu,zRe]
     exact hNx (s,l1,nx1.set v (k+1)) _ _ ⟨(by exact f0),by exact f1,by exact f2,by exact f7,by exact f8,hC3.app,(Ext.refl.app).cells (m3.cells hA1 hab),(Ext.refl.app).cells k3,hmu⟩ (by show (gt out v).length-gt (nx1.set v (k+1)) v<(gt out v).length-k;rw [gt_set (by omega),if_pos rfl];omega)
    ·simp only [n64,r64,f0,f1,f2,f7,f8,bAX,w2,w3,w4,w5,lN,xN,lO,xO,hlt,lU,xU,lA,xA,hlG1,zSa,lV1,xV1,lV2,xV2,wk,eq_false hr1,e3,SB,seval,zCa,aOp,zB,aUn,reduceCtorEq,zFr,place,zTu,zRe]
     exact hNx (s,l1,nx1.set v (k+1)) _ _ ⟨(by exact f0),by exact f1,by exact f2,by exact f7,by exact f8,hC3.app,(Ext.refl.app).cells (m3.cells hA1 hab),(Ext.refl.app).cells k3,hmu⟩ (by show (gt out v).length-gt (nx1.set v (k+1)) v<(gt out v).length-k;rw [gt_set (by omega),if_pos rfl];omega)
   obtain ⟨hr1,hr2⟩:=hrm
   have lo1:=hMd.lo
   have lt1:=hMd.lt
   have wgs:IntKind.i64.wrap (g-s)=g-s:=zWi (by omega) (by omega)
   simp only [n64,r64,f0,f1,f2,f7,f8,bAX,w2,w3,w4,w5,lN,xN,lO,xO,hlt,lU,xU,lA,xA,hlG1,zSa,lV1,xV1,lV2,xV2,wk,eq_true hr1,eq_true hr2,wgs,min_v,SB,seval,zCa,aOp,zB,aUn,reduceCtorEq,zFr,place,zTu,zRe]
   have hC1':Chg [Ba,Bn] G1 (G1++[.cells false [.int .i64 (hd l1 a:Int),.int .i64 (rm l1 a)]]):=Chg.refl.app
   refine ih (hd l1 a) (min (g-s) (rm l1 a)) l1 nx1 _ _ (by have:=hM (hd l1 a);have:=hlo v;omega) o3 (by omega) (by omega) ho1 hMd.done (fun i hi=>⟨hMd.nn i (by omega),by rw [hMd.same.cap i (by omega)];exact (hr i (by omega)).2⟩) (by omega) (by omega) (by omega) (by omega) ho40 (fun u=>by have:=hMd.bnd u;have:=hnxb u;unfold Flow.outs at *;omega) (hS1.chg hC1') ((Ext.refl.app).cells hA1) ((Ext.refl.app).cells hN1) fun got l2 nx2 G2 hSt hC2 hA2 hN2=>?_
   obtain ⟨t1,t2,t3,t4,t5⟩:=hMd.take ho (k:=k) (i:=a) (by omega) hk (by unfold Flow.outs;omega) hgo hr1 hr2 hSt
   have hC12:Chg [Ba,Bn] G1 G2:=hC1'.trans hC2
   obtain ⟨bA2,sV2,sO2,sU2⟩:=hS1.keep G2 hC12
   have bA2X:=fun X=>(Ext.refl.app (X:=X)).cells bA2
   have hl2:l2.length=l1.length:=hSt.same.len
   have b10:=fun X=>(Ext.refl.app (X:=X)).cells (hC2.cells (j:=G1.length) (ro:=false) (c:=[.int .i64 (hd l1 a:Int),.int .i64 (rm l1 a)]) (by rw [zHn];rfl) (by have:=zHa hA1;have:=zHa hN1;simp;omega))
   have sA2:Sl G2 enc2 2 (some ⟨Ba,0,none⟩) (zbr l2):=Sl.row z2l hA2
   have xA2:=ix_N (i:=a) (n:=na) sA2 (by omega) (by rw [zah];omega)
   have htw:tw a / 2=a / 2:=tw_half a
   have f2a:=fun X=>(sA2.app X).loadCell z2l (i:=a) (j:=1) (by rw [zah];omega) (by decide)
   rw [arcsV_gt (by omega)] at f2a
   simp only [enc2,List.getElem?_cons_zero,List.getElem?_cons_succ] at f2a
   have cap2:rm l2 a+rm l2 (tw a)=rm l1 a+rm l1 (tw a):=hSt.same.cap a (by omega)
   have nn3:=hSt.nn a (by omega)
   have nn4:=hSt.nn (tw a) (by omega)
   have wr1:IntKind.i64.wrap (rm l2 a-got)=rm l2 a-got:=zWi (by omega) (by omega)
   have wr2:IntKind.i64.wrap (rm l2 (tw a)+got)=rm l2 (tw a)+got:=zWi (by omega) (by omega)
   have wsg:IntKind.i64.wrap (s+got)=s+got:=zWi (by omega) (by omega)
   obtain ⟨G3,e3,k3,m3⟩:=field_mut (lim:=lim) (i:=a) (j:=1) (v:=.int .i64 (rm l2 a-got)) z2l hA2 hla (by rw [zah];omega) (by decide) ((hd l2 a:Int),rm l2 a-got) (by rw [arcsV_gt (by omega)];rfl)
   have sA3:Sl G3 enc2 2 (some ⟨Ba,0,none⟩) ((zbr l2).set a ((hd l2 a:Int),rm l2 a-got)):=Sl.row z2l k3
   have hlen3:((zbr l2).set a ((hd l2 a:Int),rm l2 a-got)).length=2*l2.length:=by rw [List.length_set,zah]
   have xA3:=ix_N (i:=tw a) (n:=na) sA3 (by omega) (by omega)
   have f3a:=fun X=>(sA3.app X).loadCell z2l (i:=tw a) (j:=1) (by omega) (by decide)
   have g3:gt ((zbr l2).set a ((hd l2 a:Int),rm l2 a-got)) (tw a)=((hd l2 (tw a):Int),rm l2 (tw a)):=by rw [gt_set (by rw [zah];omega),if_neg (tw_ne a),arcsV_gt (by omega)]
   rw [g3] at f3a
   simp only [enc2,List.getElem?_cons_zero,List.getElem?_cons_succ] at f3a
   obtain ⟨G4,e4,k4,m4⟩:=field_mut (lim:=lim) (i:=tw a) (j:=1) (v:=.int .i64 (rm l2 (tw a)+got)) z2l k3 hla (by omega) (by decide) ((hd l2 (tw a):Int),rm l2 (tw a)+got) (by rw [g3];rfl)
   rw [arcsV_set (by omega)] at k4
   have hC3:Chg [Ba,Bn] G1 G3:=hC12.mut m3 (.inl (by simp))
   have hC4:Chg [Ba,Bn] G1 G4:=hC3.mut m4 (.inl (by simp))
   have bA3X:=fun X=>(Ext.refl.app (X:=X)).cells (hS1.keep G3 hC3).1
   have bA4X:=fun X=>(Ext.refl.app (X:=X)).cells (hS1.keep G4 hC4).1
   have hN4:zG G4 Bn=.cells false (nx2.flatMap encN):=m4.cells (m3.cells hN2 (Ne.symm hab)) (Ne.symm hab)
   have hxor:IntKind.i64.wrap (((BitVec.ofInt IntKind.i64.bits (a:Int) ^^^ BitVec.ofInt IntKind.i64.bits 1).toNat:Nat):Int)=((tw a:Nat):Int):=xor_v (n:=a) (by omega)
   refine zRp ?_
   by_cases hsg:s+got=g
   ·simp only [n64,r64,f0,f1,f2,f7,f8,bA2X,bA3X,bA4X,w2,w3,w4,w5,b10,xA2,f2a,wr1,e3,hxor,xA3,f3a,wr2,e4,wsg,eq_true hsg,SB,seval,zCa,aOp,zB,aUn,reduceCtorEq,zFr,place,zTu,zRe]
    exact hQ (s+got) _ nx2 _ (by rw [hsg];exact t1 hsg) (hC.trans hC4).app ((Ext.refl.app).cells k4) ((Ext.refl.app).cells hN4)
   ·have hN4':Sl G4 encN 1 (some ⟨Bn,0,none⟩) nx2:=Sl.row zbf hN4
    have nxl2:nx2.length=nx1.length:=hSt.nxlen
    have hk2:gt nx2 v=k:=(hSt.keep v hr2).trans hk
    have lN4:=ld_N (i:=v) hN4' (by omega)
    have xN4:=ix_N (i:=v) (n:=nn) hN4' (by omega) (by omega)
    rw [hk2] at lN4
    obtain ⟨G5,e5,k5,m5⟩:=zd4 (lim:=lim) (p:=some ⟨Bn,0,none⟩) (i:=v) zbf rfl hN4 hln (by omega) (k+1)
    simp only [encN] at e5
    simp only [n64,r64,f0,f1,f2,f7,f8,bA2X,bA3X,bA4X,w2,w3,w4,w5,b10,xA2,f2a,wr1,e3,hxor,xA3,f3a,wr2,e4,wsg,eq_false hsg,lN4,xN4,wk,e5,SB,seval,zCa,aOp,zB,aUn,reduceCtorEq,zFr,place,zTu,zRe]
    have hC5:Chg [Ba,Bn] G G5:=(hC.trans hC4).mut m5 (.inl (by simp))
    exact hNx (s+got,zbu l2 a got,nx2.set v (k+1)) _ _ ⟨(by exact f0),by exact f1,by exact f2,by exact f7,(by rfl),hC5.app,(Ext.refl.app).cells (m5.cells k4 hab),(Ext.refl.app).cells k5,t2 hsg⟩ (by show (gt out v).length-gt (nx2.set v (k+1)) v<(gt out v).length-k;rw [gt_set (by omega),if_pos rfl];omega)
end
theorem mul_ok [OB] {mp:Bool} {lim n:Nat} {H:zH} {Q:Value→zH→Prop} (hn:n<2 ^ 32):za0 E mp lim 106 [.int .u64 1,.int .u64 (n:Int)] H Q=Q (.tuple #[.int .u64 0,.int .u64 (n:Int)]) H:=by
 have key:∀(mp:Bool) (lim:Nat) (H:zH) (Q:Value→zH→Prop),za0 E mp lim 130 [.int .u64 1,.int .u64 (n:Int)] H Q=Q (.tuple #[.int .u64 0,.int .u64 (n:Int)]) H:=by
  intro mp lim H Q
  refine pc (by decide) e130 rfl rfl ?_
  rw [b130,c130]
  simp only [n130,r130,SB,Nat.reduceLT,zCa,aOp,Nat.reduceEqDiff,zB,aUn,reduceCtorEq,zFr,place,zTu,Nat.reduceAdd,Nat.reduceLeDiff,zRe,Int.reduceEq,Int.reduceLT,Int.reduceLE]
  have and_n:∀m:Nat,m<2 ^ 32→IntKind.u64.wrap (((BitVec.ofInt IntKind.u64.bits (m:Int) &&& BitVec.ofInt IntKind.u64.bits 4294967295).toNat:Nat):Int)=(m:Int):=fun m hm=>by
   have e1:BitVec.ofInt IntKind.u64.bits (m:Int)=BitVec.ofNat 64 m:=by show BitVec.ofInt 64 (m:Int)=_;simp
   have e2:BitVec.ofInt IntKind.u64.bits 4294967295=BitVec.ofNat 64 4294967295:=rfl
   rw [e1,e2]
   show IntKind.u64.wrap (((BitVec.ofNat 64 m &&& BitVec.ofNat 64 4294967295).toNat:Nat):Int)=_
   rw [BitVec.toNat_and,BitVec.toNat_ofNat,BitVec.toNat_ofNat,Nat.mod_eq_of_lt (by omega),Nat.mod_eq_of_lt (by omega),show (4294967295:Nat)=2 ^ 32-1 by rfl,Nat.and_two_pow_sub_one_eq_mod,Nat.mod_eq_of_lt hm]
   simp only [IntKind.wrap,IntKind.bits,IntKind.signed]
   simp;omega
  have sh:∀m:Nat,m<2 ^ 32→Int.fdiv (m:Int) (2 ^ min (Int.toNat 32) IntKind.u64.bits)=0:=fun m hm=>by
   show Int.fdiv (m:Int) 4294967296=0
   rw [Int.fdiv_eq_ediv_of_nonneg _ (by decide)]
   omega
  have wn:IntKind.u64.wrap (n:Int)=(n:Int):=by
   simp only [IntKind.wrap,IntKind.bits,IntKind.signed]
   simp;omega
  have w0:IntKind.u64.wrap 0=0:=by decide
  have c1:=and_n 1 (by decide)
  have c0:=and_n 0 (by decide)
  have s1:=sh 1 (by decide)
  have s0:=sh 0 (by decide)
  simp only [Int.ofNat_one,Int.ofNat_zero,Int.natCast_zero,Int.natCast_one] at c1 c0 s1 s0
  simp only [c1,c0,and_n n hn,s1,s0,sh n hn,Int.zero_mul,Int.one_mul,Int.add_zero,Int.zero_add,wn,w0]
 refine pc (by decide) e106 rfl rfl ?_
 rw [b106,c106]
 simp only [n106,r106,key,SB,Nat.reduceLT,zCa,aOp,Nat.reduceEqDiff,zB,aUn,reduceCtorEq,zFr,place,zTu,Nat.reduceAdd,Nat.reduceLeDiff,zRe,Int.reduceEq,Int.reduceLT,Int.reduceLE]
theorem flat_rep {n:Nat} {x:Int}:(List.replicate n x).flatMap encI=List.replicate n (.int .i64 x):=by
 induction n with
 | zero=>rfl
 | succ n ih=>rw [List.replicate_succ,List.flatMap_cons,ih,List.replicate_succ];rfl
theorem make1 {n:Nat} {v:Value}:List.map (fun j=>[v].getD (j % 1) undef) (List.range (n*1))=List.replicate n v:=by
 rw [Nat.mul_one]
 apply List.ext_getElem (by simp)
 intro i h1 h2
 simp [Nat.mod_one]
theorem slice_V {e n c lo hi:Nat} {a:Addr} {vlo vhi:Option Value} (hc:c<2 ^ 62) (hb:zde n c vlo vhi none=some (lo,hi,c)):sliceV e (.slice (some a) n c) vlo vhi none=some (.slice (some (if c=lo then a else a.add (lo*e))) (hi-lo) (c-lo)):=by
 unfold zde at hb
 simp only [sliceV,ze0]
 rw [if_neg (by unfold loose;omega),if_pos hc]
 simp only [Option.map_none] at hb⊢
 have hb':zbp unV n c (vlo.map Operand.const) (vhi.map Operand.const) none=some (lo,hi,c):=hb
 rw [hb']
 simp only
 split<;>rfl
theorem copy_rep {lim B k r c c':Nat} {a b:Value} {H:zH} (hB:zG H B=.cells false (List.replicate k a++List.replicate r b)) (hl:lim≤B) (hk:0<k) (hr:0<r) :
  copyV lim 1 (.slice (some ⟨B,k,none⟩) r c) (.slice (some ⟨B,0,none⟩) k c') H=some (.int .i64 ((min k r:Nat):Int),H.set B (.cells false (List.replicate (k+min k r) a++List.replicate (r-min k r) b))):=by
 have e1:AM.loadCells H ⟨B,0,none⟩ (min k r*1)=some (List.replicate (min k r) a):=by
  simp only [za2,hB,Nat.mul_one,Nat.zero_add,List.drop_zero]
  rw [if_pos (by simp;omega),List.take_append_of_le_length (by simp;omega),List.take_replicate,Nat.min_eq_left (by omega)]
 simp only [copyV,lenOf,zbd,e1]
 rw [if_neg (by omega)]
 simp only [zc8,hB,List.length_replicate]
 rw [if_pos ⟨hl,by simp;omega⟩]
 simp only [Option.map_some]
 congr 4
 have h:=setAll_mid (List.replicate (min k r) a) (List.replicate k a) (List.replicate (min k r) b) (List.replicate (r-min k r) b) (by simp)
 rw [List.length_replicate,List.append_assoc,List.replicate_append_replicate,show min k r+(r-min k r)=r by omega] at h
 rw [h,List.replicate_append_replicate]
theorem repeat_ok [OB] {lim n c:Nat} {x:Int} {p:Option Addr} {H:zH} {Q:Value→zH→Prop} (hlim:lim≤H.length) (h1:1≤n) (hn:n<2 ^ 30) (hs:Sl H encI 1 p [x])
  (hQ:∀H',Chg [] H H'→zG H' H.length=.cells false ((List.replicate n x).flatMap encI)→H.length<H'.length→Q (.slice (some ⟨H.length,0,none⟩) n n) H'):za0 E false lim 86 [.slice p 1 c,.int .i64 (n:Int)] H Q:=by
 refine zbq (by decide) e86 rfl ?_
 rw [b86,c86]
 have hm:=fun (H:zH) (mp:Bool) (lim:Nat) (Q:Value→zH→Prop)=>mul_ok (mp:=mp) (lim:=lim) (n:=n) (H:=H) (Q:=Q) (by omega)
 have wu:IntKind.u64.wrap (n:Int)=(n:Int):=by
  simp only [IntKind.wrap,IntKind.bits,IntKind.signed]
  simp;omega
 have w1:IntKind.u64.wrap 1=1:=by decide
 have wi:IntKind.i64.wrap (n:Int)=(n:Int):=zWi (by omega) (by omega)
 have n0:=eq_false (show ¬(n:Int)<0 by omega)
 have nb:=eq_false (show ¬(9223372036854775807:Int)<(n:Int) by omega)
 have hmk:=eq_true (show 0≤(n:Int)∧(n:Int)*8≤2 ^ 45∧(n:Int)<2 ^ 62 by omega)
 have hc1:∀X,copyV lim 1 (.slice (some ⟨H.length,0,none⟩) n n) (.slice p 1 c) (H++Blk.cells false (List.replicate n (.int .i64 0))::X)=some (.int .i64 1,H++Blk.cells false (List.replicate 1 (.int .i64 x)++List.replicate (n-1) (.int .i64 0))::X):=fun X=>by
  have hb:zG (H++Blk.cells false (List.replicate n (.int .i64 0))::X) H.length=.cells false (List.replicate n (.int .i64 0)):=zHn
  obtain ⟨a,rfl⟩:=hs.some (by simp)
  have e1:AM.loadCells (H++Blk.cells false (List.replicate n (.int .i64 0))::X) a 1=some [.int .i64 x]:=by
   have:=(hs.app (Blk.cells false (List.replicate n (.int .i64 0))::X)).loadCells zIl (i:=0) (by simp)
   have e0:elt (some a) 1 0=a:=by
    have h1:=hs.1
    obtain ⟨b,o,sp⟩:=a
    simp only at h1
    subst h1
    simp [elt,addrOf,zay]
   rw [e0] at this
   exact this
  simp only [copyV,lenOf,zbd,Nat.min_eq_left h1,Nat.mul_one,e1]
  rw [if_neg (by omega)]
  simp only [zc8,hb,List.length_replicate]
  rw [if_pos ⟨hlim,by simp;omega⟩]
  simp only [Option.map_some]
  rw [set_new0,List.set_cons_zero]
  congr 5
  obtain ⟨m,rfl⟩:∃m,n=m+1:=⟨n-1,by omega⟩
  rw [List.replicate_succ]
  rfl
 simp only [n86,r86,hm,wu,w1,wi,n0,nb,hmk,make1,hc1,SB,Nat.reduceLT,zCa,aOp,Nat.reduceEqDiff,zB,aUn,reduceCtorEq,zFr,place,zTu,Nat.reduceAdd,Nat.reduceLeDiff,zRe,Int.reduceEq,Int.reduceLT,Int.reduceLE]
 refine zRr (fun k=>n-k) (fun k fr G=>1≤k∧k≤n∧fr 7=.slice (some ⟨H.length,0,none⟩) n n∧fr 8=.int .i64 (k:Int)∧Chg [] H G∧zG G H.length=.cells false (List.replicate k (.int .i64 x)++List.replicate (n-k) (.int .i64 0))) 1
  ⟨Nat.le_refl _,h1,(by rfl),by rfl,Chg.refl.app,zHn⟩ ?_
 intro k fr G ⟨hk1,hkn,g7,g8,hC,hB⟩ hN
 rw [zRc l86_1.eq_1]
 refine zRp ?_
 by_cases hlt:k<n
 case neg=>
  obtain rfl:k=n:=by omega
  rw [Nat.sub_self,List.replicate_zero,List.append_nil] at hB
  simp only [n86,r86,g7,g8,hlt,SB,Nat.reduceLT,zCa,aOp,Nat.reduceEqDiff,zB,aUn,reduceCtorEq,zFr,place,zTu,Nat.reduceAdd,Nat.reduceLeDiff,zRe,Int.reduceEq,Int.reduceLT,Int.reduceLE]
  exact hQ _ hC.app (by rw [flat_rep];exact (Ext.refl.app).cells hB) (by have:=zHa hB;simp;omega)
 have hBX:zG (G++[]) H.length=.cells false (List.replicate k (.int .i64 x)++List.replicate (n-k) (.int .i64 0)):=(Ext.refl.app).cells hB
 have hc:=copy_rep (lim:=lim) (c:=n-k) (c':=n) hBX hlim (by omega) (by omega)
 have sA:sliceV 1 (.slice (some ⟨H.length,0,none⟩) n n) (some (.int .i64 (k:Int))) none none=some (.slice (some ⟨H.length,k,none⟩) (n-k) (n-k)):=by
  rw [slice_V (lo:=k) (hi:=n) (by omega) (by rw [bv_100 (by omega) (by omega),Int.toNat_natCast]),if_neg (by omega)];simp [zay]
 have sB:sliceV 1 (.slice (some ⟨H.length,0,none⟩) n n) none (some (.int .i64 (k:Int))) none=some (.slice (some ⟨H.length,0,none⟩) k n):=by
  rw [slice_V (lo:=0) (hi:=k) (by omega) (by rw [bv_010 (by omega) (by omega),Int.toNat_natCast]),if_neg (by omega)];simp [zay]
 obtain ⟨G2,e2,k2,m2⟩:=za4 (zHa hB) (.cells false (List.replicate (k+min k (n-k)) (.int .i64 x)++List.replicate (n-k-min k (n-k)) (.int .i64 0)))
 have wk:IntKind.i64.wrap ((k:Int)+((min k (n-k):Nat):Int))=((k+min k (n-k):Nat):Int):=by rw [zWi (by omega) (by omega)];omega
 simp only [n86,r86,g7,g8,hlt,sA,sB,hc,e2,wk,SB,Nat.reduceLT,zCa,aOp,Nat.reduceEqDiff,zB,aUn,reduceCtorEq,zFr,place,zTu,Nat.reduceAdd,Nat.reduceLeDiff,zRe,Int.reduceEq,Int.reduceLT,Int.reduceLE]
 exact hN (k+min k (n-k)) _ _ ⟨by omega,by omega,by exact g7,(by rfl),(hC.mut m2 (.inr (Nat.le_refl _))).app,by rw [show n-(k+min k (n-k))=n-k-min k (n-k) by omega];exact (Ext.refl.app).cells k2⟩ (by omega)
def Que (lo:Nat) (G:zH) (p:Option Addr) (c:Nat) (q:List Nat):Prop:=∃R o cs,p=some ⟨R,o,none⟩∧zG G R=.cells false cs∧o+q.length≤cs.length∧(cs.drop o).take q.length=q.flatMap encN∧lo≤R∧(c=loose 1∨c=q.length)
theorem Que.sl {lo c:Nat} {G:zH} {p:Option Addr} {q:List Nat} (h:Que lo G p c q):Sl G encN 1 p q:=by
 obtain ⟨R,o,cs,rfl,h1,h2,h3,_⟩:=h
 exact ⟨rfl,fun _=>⟨false,cs,h1,by rw [Nat.mul_one];exact h2,by rw [Nat.mul_one];exact h3⟩⟩
theorem Que.chg {lo c:Nat} {S:List Nat} {G G':zH} {p:Option Addr} {q:List Nat} (h:Que lo G p c q) (hc:Chg S G G') (hS:∀b∈S,b<lo):Que lo G' p c q:=by
 obtain ⟨R,o,cs,h0,h1,h2,h3,h4,h5⟩:=h
 exact ⟨R,o,cs,h0,hc.cells h1 (fun hm=>by have:=hS R hm;omega),h2,h3,h4,h5⟩
theorem slice_L {e n lo hi:Nat} {a:Addr} {vlo vhi:Option Value} (hb:zde n n vlo vhi none=some (lo,hi,n)):sliceV e (.slice (some a) n (loose e)) vlo vhi none=some (.slice (some (a.add (lo*e))) (hi-lo) (loose e)):=by
 unfold zde at hb
 simp only [sliceV,ze0,if_true]
 simp only [Option.map_none] at hb⊢
 have hb':zbp unV n n (vlo.map Operand.const) (vhi.map Operand.const) none=some (lo,hi,n):=hb
 rw [hb']
 rfl
theorem Que.tail {lo c x:Nat} {G:zH} {p:Option Addr} {r:List Nat} (h:Que lo G p c (x::r)) (hl:r.length<2 ^ 60):∃p' c',sliceV 1 (.slice p (r.length+1) c) (some (.int .i64 1)) none none=some (.slice p' r.length c')∧Que lo G p' c' r:=by
 obtain ⟨R,o,cs,rfl,h1,h2,h3,h4,h5⟩:=h
 simp only [List.length_cons] at h2 h3 h5
 have h3':(cs.drop (o+1)).take r.length=r.flatMap encN:=by
  have e:(x::r).flatMap encN=.int .i64 (x:Int)::r.flatMap encN:=rfl
  rw [e,List.drop_eq_getElem_cons (by omega),List.take_succ_cons] at h3
  exact (List.cons.inj h3).2
 rcases h5 with rfl | rfl
 ·refine ⟨_,_,slice_L (e:=1) (lo:=1) (hi:=r.length+1) (by rw [bv_100 (by omega) (by omega)];rfl), ?_⟩
  exact ⟨R,o+1,cs,by simp [zay],h1,by omega,h3',h4,.inl rfl⟩
 ·refine ⟨_,_,slice_V (e:=1) (lo:=1) (hi:=r.length+1) (by omega) (by rw [bv_100 (by omega) (by omega)];rfl), ?_⟩
  by_cases hr:r.length+1=1
  ·have hr0:r=[]:=List.length_eq_zero_iff.1 (by omega)
   subst hr0
   exact ⟨R,o,cs,by simp,h1,by omega,by simp,h4,.inr rfl⟩
  ·exact ⟨R,o+1,cs,by rw [if_neg hr];simp [zay],h1,by omega,h3',h4,.inr (by omega)⟩
theorem Que.push {lo lim c x:Nat} {G:zH} {p:Option Addr} {q:List Nat} (h:Que lo G p c q) (hll:lim≤lo) (hlG:lo≤G.length) (hl:q.length<2 ^ 30):∃G2,zAa lim none 1 8 false (.slice p q.length c) (.slice (some ⟨G.length,0,none⟩) 1 1) (G++[.cells false [.int .i64 (x:Int)]])=some (.slice (some ⟨G.length+1,0,none⟩) (q.length+1) (loose 1),G2++[])∧Que lo G2 (some ⟨G.length+1,0,none⟩) (loose 1) (q++[x])∧(∀b,b<lo→zG G2 b=zG G b)∧G.length≤G2.length:=by
 obtain ⟨R,o,cs,rfl,h1,h2,h3,h4,h5⟩:=h
 have hRl:=zHa h1
 have hR':zG (G++[.cells false [.int .i64 (x:Int)]]) R=.cells false cs:=by rw [zHo hRl];exact h1
 have e1:AM.loadCells (G++[.cells false [.int .i64 (x:Int)]]) ⟨R,o,none⟩ (q.length*1)=some (q.flatMap encN):=by
  simp only [za2,hR',Nat.mul_one]
  rw [if_pos h2,h3]
 have e2:AM.loadCells (G++[.cells false [.int .i64 (x:Int)]]) ⟨G.length,0,none⟩ (1*1)=some [.int .i64 (x:Int)]:=by
  simp only [za2,zHn,Nat.mul_one];rfl
 have f1:firstCells (G++[.cells false [.int .i64 (x:Int)]]) 1 false (.slice (some ⟨G.length,0,none⟩) 1 1)=some [.int .i64 (x:Int)]:=by
  simp only [firstCells,Bool.false_eq_true,if_false]
  rw [if_neg (by decide),e2]
 have f2:lenOf (.slice (some ⟨G.length,0,none⟩) 1 1)=some 1:=rfl
 have n1:¬(1:Nat)=0:=by decide
 have e3:q.flatMap encN++[.int .i64 (x:Int)]=(q++[x]).flatMap encN:=by rw [List.flatMap_append];rfl
 have hq:∀G2:zH,zG G2 (G.length+1)=.cells false ((q++[x]).flatMap encN)→Que lo G2 (some ⟨G.length+1,0,none⟩) (loose 1) (q++[x]):=fun G2 hg=>by
  refine ⟨G.length+1,0,_,rfl,hg, ?_, ?_,by omega,.inl rfl⟩
  ·rw [zaa zbf];omega
  ·rw [List.drop_zero,List.take_of_length_le (by rw [zaa zbf];omega)]
 rcases h5 with rfl | rfl
 ·refine ⟨G.set R .dead++[.cells false [.int .i64 (x:Int)],.cells false ((q++[x]).flatMap encN)], ?_,hq _ (by rw [show G.length=(G.set R .dead).length by simp,zHw];rfl),fun b hb=>?_,by simp⟩
  ·simp only [zAa,f1,f2,e1,n1,if_false,if_true,hR']
   rw [if_neg (by unfold za3 loose;rw [false_or];omega)]
   simp only [show lim≤R by omega,if_true,place,e3,List.set_append_left _ _ hRl,List.append_assoc,List.append_nil]
   simp
  ·rw [zHo (by simp;omega)];exact zHs (by omega)
 ·refine ⟨G++[.cells false [.int .i64 (x:Int)],.cells false ((q++[x]).flatMap encN)], ?_,hq _ (by rw [zHw];rfl),fun b hb=>zHo (by omega),by simp⟩
  simp only [zAa,f1,f2,e1,n1,if_false]
  rw [if_neg (by unfold za3;rw [false_or];omega),if_neg (by unfold loose;omega),if_pos (by omega),if_neg (by omega)]
  simp [place,e3]
structure Firm (A:Nat) (pa:Option Addr) (Lb:Nat) (G1:zH) (w:List Value) (po:Option Addr) (ols:List Ref) (out:List (List Nat)) (l:List Pr) (co ca cv:Nat):Prop where
 hdr:w[2]? = some (.slice pa (2*l.length) ca)∧w[3]? = some (.slice po out.length co)∧w[4]? = some (.slice (some ⟨Lb,0,none⟩) out.length cv)
 keep:∀G,Chg [Lb] G1 G→zG G A=.cells false w∧Sl G encO 1 po ols∧(∀v,v<out.length→Sl G encN 1 (gt ols v).1 (gt out v))∧Sl G enc2 2 pa (zbr l)
 len:ols.length=out.length
 cut:∀v,v<out.length→(gt ols v).2.1=(gt out v).length
 lb:Lb<G1.length
section
variable {lim A Lb:Nat} {pa:Option Addr} {G1:zH} {w:List Value} {po:Option Addr} {ols:List Ref} {out:List (List Nat)} {l:List Pr} {co ca cv:Nat} {G:zH} {fr:Nat→Value} {K:List zAi} {Z:Value→zH→Prop}
theorem reach_in [OB] {L:List Int} {q:List Nat} {p:Option Addr} {c v cc:Nat} (hF:Firm A pa Lb G1 w po ols out l co ca cv) (ho:OutOk l out) (hlb:lim≤Lb) (hout:out.length<2 ^ 29) (ho40:(gt out v).length<2 ^ 40) (hll:l.length<2 ^ 40)
  (hB:Bfs l out L q (some v) 0) (hQ:Que G1.length G p c q) (hum:q.length+zc4 L<2 ^ 29) (hC:Chg [Lb] G1 G) (hL:zG G Lb=.cells false (L.flatMap encI))
  (f0:fr 0=.pointer (some ⟨A,0,none⟩)) (f3:fr 3=.slice p q.length c) (f4:fr 4=.int .i64 (v:Int)) (f47:fr 47=.slice (gt ols v).1 (gt out v).length cc) (f48:fr 48=.int .i64 ((gt out v).length:Int)) (f49:fr 49=.int .i64 0)
  (hK:∀fr' G' L' q' p' c',Chg [Lb] G1 G'→zG G' Lb=.cells false (L'.flatMap encI)→Que G1.length G' p' c' q'→Bfs l out L' q' (some v) (gt out v).length→q'.length+zc4 L'=q.length+zc4 L→fr' 0=.pointer (some ⟨A,0,none⟩)→fr' 3=.slice p' q'.length c'→Ret E a63 lim K fr' G' Z) :
  Ret E a63 lim (.code (.loop l63_1)::.inBlock 2::K) fr G Z:=by
 refine zRr (fun s:Nat×List Int×List Nat×Option Addr×Nat=>(gt out v).length-s.1) (fun s fr' G'=>s.1≤(gt out v).length∧Chg [Lb] G1 G'∧zG G' Lb=.cells false (s.2.1.flatMap encI)∧Que G1.length G' s.2.2.2.1 s.2.2.2.2 s.2.2.1∧Bfs l out s.2.1 s.2.2.1 (some v) s.1∧s.2.2.1.length+zc4 s.2.1=q.length+zc4 L∧
   fr' 0=.pointer (some ⟨A,0,none⟩)∧fr' 3=.slice s.2.2.2.1 s.2.2.1.length s.2.2.2.2∧fr' 4=.int .i64 (v:Int)∧fr' 47=.slice (gt ols v).1 (gt out v).length cc∧fr' 48=.int .i64 ((gt out v).length:Int)∧fr' 49=.int .i64 (s.1:Int)) (0,L,q,p,c)
  ⟨Nat.zero_le _,hC,hL,hQ,hB,rfl,f0,f3,f4,f47,f48,by rw [f49];rfl⟩ ?_
 rintro ⟨k,L',q',p',c'⟩ fr' G' ⟨hk,hC',hL',hQ',hB',hsum,g0,g3,g4,g47,g48,g49⟩ hN
 simp only at hk hL' hQ' hB' hsum g3 g49
 rw [zRc l63_1.eq_1]
 refine zRp ?_
 by_cases hlt:k<(gt out v).length
 case neg=>
  obtain rfl:k=(gt out v).length:=by omega
  simp only [n63,r63,g0,g3,g47,g48,g49,hlt,SB,seval,zCa,aOp,zB,aUn,reduceCtorEq,zFr,place,zTu,zRe]
  exact hK _ _ L' q' p' c' hC'.app ((Ext.refl.app).cells hL') (hQ'.chg (S:=[]) Chg.refl.app (fun b hb=>by cases hb)) hB' hsum (by exact g0) (by exact g3)
 obtain ⟨w2,w3,w4⟩:=hF.hdr
 obtain ⟨bA,sO,sU,bB⟩:=hF.keep G' hC'
 have hlbG:=hF.lb
 obtain ⟨a,hga⟩:∃a,a=gt (gt out v) k:=⟨_,rfl⟩
 have ham:a∈Flow.outs out v:=by rw [hga];exact zag hlt
 obtain ⟨o1,o2,o3⟩:=ho.ok v a ham
 obtain ⟨hv,hv0,_⟩:=hB'.cur v rfl
 have bAX:=fun X=>(Ext.refl.app (X:=X)).cells bA
 have lU:=ld_N (sU v hv) hlt
 have xU:=ix_N (sU v hv) hlt rfl
 rw [←hga] at lU
 have sA:Sl G' enc2 2 pa (zbr l):=bB
 have lA:=fun X=>(sA.app X).loadCells z2l (i:=a) (by rw [zah];omega)
 have xA:=ix_N (i:=a) (n:=2*l.length) sA (by omega) zah
 simp only [arcsV_gt o1,enc2] at lA
 have hlen:=hB'.len
 have sL:Sl G' encI 1 (some ⟨Lb,0,none⟩) L':=Sl.row zIl hL'
 have lV1:=zdx (i:=hd l a) sL (by omega)
 have xV1:=ix_N (i:=hd l a) (n:=out.length) sL o3 hlen
 have lV2:=zdx (i:=v) sL (by omega)
 have xV2:=ix_N (i:=v) (n:=out.length) sL hv hlen
 rw [lvF_gt (by omega)] at lV1 lV2
 have hlG:=hC'.len
 have hlL:lim≤G'.length:=by omega
 have wk:IntKind.i64.wrap ((k:Int)+1)=((k+1:Nat):Int):=zWn (by omega)
 by_cases hm:0<rm l a∧lvF L' (hd l a)<0
 case neg=>
  have hB2:Bfs l out L' q' (some v) (k+1):=hB'.next (by unfold Flow.outs;rw [←hga];exact hm)
  by_cases h1:0<rm l a
  ·have h2:¬lvF L' (hd l a)<0:=fun h=>hm ⟨h1,h⟩
   simp only [n63,r63,g0,g3,g4,g47,g48,g49,hlt,bAX,w2,w3,w4,lU,xU,lA,xA,zSa,hlL,lV1,xV1,lV2,xV2,wk,eq_true h1,eq_false h2,SB,seval,zCa,aOp,zB,aUn,reduceCtorEq,zFr,place,zTu,zRe]
   exact hN (k+1,L',q',p',c') _ _ ⟨by show k+1≤_;omega,hC'.app,(Ext.refl.app).cells hL',hQ'.chg (S:=[]) Chg.refl.app (fun b hb=>by cases hb),hB2,hsum,by exact g0,by exact g3,by exact g4,by exact g47,by exact g48,(by rfl)⟩ (by show (gt out v).length-(k+1)<(gt out v).length-k;omega)
  ·simp only [n63,r63,g0,g3,g4,g47,g48,g49,hlt,bAX,w2,w3,w4,lU,xU,lA,xA,zSa,hlL,lV1,xV1,lV2,xV2,wk,eq_false h1,SB,seval,zCa,aOp,zB,aUn,reduceCtorEq,zFr,place,zTu,zRe]
   exact hN (k+1,L',q',p',c') _ _ ⟨by show k+1≤_;omega,hC'.app,(Ext.refl.app).cells hL',hQ'.chg (S:=[]) Chg.refl.app (fun b hb=>by cases hb),hB2,hsum,by exact g0,by exact g3,by exact g4,by exact g47,by exact g48,(by rfl)⟩ (by show (gt out v).length-(k+1)<(gt out v).length-k;omega)
 obtain ⟨h1,h2⟩:=hm
 have hB2:=hB'.met ho (k:=k) (i:=a) hlt hga.symm h1 h2
 have hun:=unmet_set (L:=L') (v:=hd l a) (x:=lvF L' v+1) (by omega) h2 (by omega)
 have hhi:=hB'.hi v
 have wl:IntKind.i64.wrap (lvF L' v+1)=lvF L' v+1:=zWi (by omega) (by omega)
 obtain ⟨G2,e2,k2,m2⟩:=zd4 (lim:=lim) (p:=some ⟨Lb,0,none⟩) (i:=hd l a) zIl rfl hL' hlb (by omega) (lvF L' v+1)
 simp only [encI] at e2
 have hC2:Chg [Lb] G1 (G2++[.cells false [.int .i64 (hd l a:Int),.int .i64 (rm l a)]]):=(hC'.mut m2 (.inl (by simp))).app
 have hcc:Chg [Lb] G' (G2++[.cells false [.int .i64 (hd l a:Int),.int .i64 (rm l a)]]):=(Chg.refl.mut m2 (.inl (by simp))).app
 have hQ2:=hQ'.chg hcc (fun b hb=>by rw [List.mem_singleton] at hb;omega)
 obtain ⟨G3,e3,Q3,K3,l3⟩:=Que.push (lim:=lim) (x:=hd l a) hQ2 (by omega) hC2.len (by omega)
 simp only [List.append_assoc,List.cons_append,List.nil_append,List.length_append,List.length_cons,List.length_nil,Nat.zero_add,Nat.add_assoc,Nat.reduceAdd] at e3 Q3
 have hbA2:=fun X=>(Ext.refl.app (X:=X)).cells (hF.keep G2 (hC'.mut m2 (.inl (by simp)))).1
 have el:=m2.len
 have b7X:∀X,zG (G2++Blk.cells false [.int .i64 (hd l a:Int),.int .i64 (rm l a)]::X) G'.length=.cells false [.int .i64 (hd l a:Int),.int .i64 (rm l a)]:=fun X=>by rw [←el,zHn];rfl
 have hC3:Chg [Lb] G1 G3:=⟨Nat.le_trans hC2.len l3,fun j hj hA=>(K3 j hj).trans (hC2.other j hj hA)⟩
 have hL3:zG G3 Lb=.cells false ((L'.set (hd l a) (lvF L' v+1)).flatMap encI):=by rw [K3 Lb hlbG,zHo (zHa k2)];exact k2
 simp only [n63,r63,g0,g3,g4,g47,g48,g49,hlt,bAX,w2,w3,w4,lU,xU,lA,xA,zSa,hlL,lV1,xV1,lV2,xV2,wk,eq_true h1,eq_true h2,wl,e2,hbA2,b7X,e3,SB,seval,zCa,aOp,zB,aUn,reduceCtorEq,zFr,place,zTu,zRe]
 exact hN (k+1,L'.set (hd l a) (lvF L' v+1),q'++[hd l a],some ⟨G2.length+2,0,none⟩,loose 1) _ _ ⟨by show k+1≤_;omega,hC3.app,(Ext.refl.app).cells hL3,Q3.chg (S:=[]) Chg.refl.app (fun b hb=>by cases hb),hB2,by simp only [List.length_append,List.length_cons,List.length_nil];omega,by exact g0,by simp only [List.length_append,List.length_cons,List.length_nil,Nat.zero_add];exact (by rfl),by exact g4,by exact g47,by exact g48,(by rfl)⟩ (by show (gt out v).length-(k+1)<(gt out v).length-k;omega)
end
section
variable {lim A Lb:Nat} {pa:Option Addr} {G1:zH} {w:List Value} {po:Option Addr} {ols:List Ref} {out:List (List Nat)} {l:List Pr} {co ca cv:Nat} {G:zH} {fr:Nat→Value} {K:List zAi} {Z:Value→zH→Prop}
theorem reach_out [OB] {L:List Int} {q:List Nat} {p:Option Addr} {c:Nat} (hF:Firm A pa Lb G1 w po ols out l co ca cv) (ho:OutOk l out) (hlb:lim≤Lb) (hout:out.length<2 ^ 29) (ho40:∀v,(gt out v).length<2 ^ 40) (hll:l.length<2 ^ 40)
  (hB:Bfs l out L q none 0) (hQ:Que G1.length G p c q) (hum:q.length+zc4 L<2 ^ 29) (hC:Chg [Lb] G1 G) (hL:zG G Lb=.cells false (L.flatMap encI))
  (f0:fr 0=.pointer (some ⟨A,0,none⟩)) (f3:fr 3=.slice p q.length c)
  (hK:∀fr' G' L',Chg [Lb] G1 G'→zG G' Lb=.cells false (L'.flatMap encI)→Bfs l out L' [] none 0→fr' 0=.pointer (some ⟨A,0,none⟩)→Ret E a63 lim K fr' G' Z) :
  Ret E a63 lim (.code (.loop l63_2)::.inBlock 0::K) fr G Z:=by
 refine zRr (fun s:List Int×List Nat×Option Addr×Nat=>s.2.1.length+zc4 s.1) (fun s fr' G'=>Chg [Lb] G1 G'∧zG G' Lb=.cells false (s.1.flatMap encI)∧Que G1.length G' s.2.2.1 s.2.2.2 s.2.1∧Bfs l out s.1 s.2.1 none 0∧s.2.1.length+zc4 s.1<2 ^ 29∧fr' 0=.pointer (some ⟨A,0,none⟩)∧fr' 3=.slice s.2.2.1 s.2.1.length s.2.2.2) (L,q,p,c)
  ⟨hC,hL,hQ,hB,hum,f0,f3⟩ ?_
 rintro ⟨L',q',p',c'⟩ fr' G' ⟨hC',hL',hQ',hB',hum',g0,g3⟩ hN
 simp only at hL' hQ' hB' hum' g3
 rw [zRc l63_2.eq_1]
 refine zRp ?_
 match q',hQ',hB',hum',g3,hN with
 | [],hQ',hB',hum',g3,hN=>
   rw [List.length_nil] at g3
   simp only [n63,r63,g0,g3,eq_false (show ¬(0:Int)<0 by decide),SB,Nat.reduceLT,zCa,aOp,Nat.reduceEqDiff,zB,aUn,reduceCtorEq,zFr,place,zTu,Nat.reduceAdd,Nat.reduceLeDiff,zRe,Int.reduceEq,Int.reduceLT,Int.reduceLE]
   exact hK _ _ L' hC'.app ((Ext.refl.app).cells hL') hB' (by exact g0)
 | v::r,hQ',hB',hum',g3,hN=>
   simp only [List.length_cons] at g3 hum'
   obtain ⟨w2,w3,w4⟩:=hF.hdr
   obtain ⟨bA,sO,sU,bB⟩:=hF.keep G' hC'
   have bAX:=fun X=>(Ext.refl.app (X:=X)).cells bA
   obtain ⟨p2,c2,e2,Q2⟩:=hQ'.tail (by omega)
   have lQ:=ld_N (i:=0) hQ'.sl (by simp)
   have xQ:∀(H1:zH),idxK 1 (.slice p' (r.length+1) c') (.int .i64 0) H1=some (.pointer (some (elt p' 1 0)),H1):=fun H1=>ix_N (i:=0) (n:=r.length+1) hQ'.sl (by omega) rfl c' .i64 H1
   rw [gt_cons_zero] at lQ
   have hv:=(hB'.qin v List.mem_cons_self).1
   have hcut:=hF.cut v hv
   have lO:=ld_O (i:=v) sO (by rw [hF.len];exact hv)
   have xO:=ix_N (i:=v) (n:=out.length) sO hv hF.len
   rw [hcut] at lO
   have hpos:(0:Int)<((r.length+1:Nat):Int):=by omega
   simp only [n63,r63,g0,g3,eq_true hpos,bAX,w3,lQ,xQ,e2,lO,xO,SB,Nat.reduceLT,zCa,aOp,Nat.reduceEqDiff,zB,aUn,reduceCtorEq,zFr,place,zTu,Nat.reduceAdd,Nat.reduceLeDiff,zRe,Int.reduceEq,Int.reduceLT,Int.reduceLE]
   refine reach_in (A:=A) (pa:=pa) (G1:=G1) (v:=v) (cc:=(gt ols v).2.2) (q:=r) (p:=p2) (c:=c2) (L:=L') hF ho hlb hout (ho40 v) hll hB'.pop (Q2.chg (S:=[]) Chg.refl.app (fun b hb=>by cases hb)) (by omega) hC'.app ((Ext.refl.app).cells hL') (by exact g0) (by rfl) (by rfl) (by rfl) (by rfl) (by rfl) fun fr2 G2 L2 q2 p3 c3 hC2 hL2 hQ2 hB2 hs2 k0 k3=>?_
   refine zRp ?_
   simp only [n63,r63,SB,Nat.reduceLT,zCa,aOp,Nat.reduceEqDiff,zB,aUn,reduceCtorEq,zFr,place,zTu,Nat.reduceAdd,Nat.reduceLeDiff,zRe,Int.reduceEq,Int.reduceLT,Int.reduceLE]
   exact hN (L2,q2,p3,c3) _ _ ⟨hC2.app,(Ext.refl.app).cells hL2,hQ2.chg (S:=[]) Chg.refl.app (fun b hb=>by cases hb),hB2.done (by unfold Flow.outs;omega),by show q2.length+zc4 L2<2 ^ 29;omega,k0,k3⟩ (by show q2.length+zc4 L2<(v::r).length+zc4 L';simp only [List.length_cons];omega)
end
theorem flat_repN {n:Nat}:(List.replicate n 0).flatMap encN=List.replicate n (Value.int IntKind.i64 0):=by
 induction n with
 | zero=>rfl
 | succ n ih=>rw [List.replicate_succ,List.flatMap_cons,ih,List.replicate_succ];rfl
theorem unmet_le (L:List Int):zc4 L≤L.length:=List.length_filter_le _ _
theorem reach_ok [OB] {lim A:Nat} {pa:Option Addr} {G:zH} {vp vm vw vmost v4 v5:Value} {po:Option Addr} {ols:List Ref} {out:List (List Nat)} {l:List Pr} {co ca:Nat} {Q:Value→zH→Prop}
  (hA:zG G A=.cells false [vp,vm,.slice pa (2*l.length) ca,.slice po out.length co,v4,v5,vw,vmost]) (hlA:lim≤A) (hlim:lim≤G.length)
  (hkeep:∀G',Chg [A] G G'→Sl G' encO 1 po ols∧(∀v,v<out.length→Sl G' encN 1 (gt ols v).1 (gt out v))∧Sl G' enc2 2 pa (zbr l))
  (hlen:ols.length=out.length) (hcut:∀v,v<out.length→(gt ols v).2.1=(gt out v).length) (ho:OutOk l out) (h2:2≤out.length) (hout:out.length<2 ^ 28) (ho40:∀v,(gt out v).length<2 ^ 40) (hll:l.length<2 ^ 40)
  (hQ:∀G' Lb Bn cv cn L,Chg [A] G G'→G.length≤Lb→G.length≤Bn→Lb≠Bn→zG G' A=.cells false [vp,vm,.slice pa (2*l.length) ca,.slice po out.length co,.slice (some ⟨Lb,0,none⟩) out.length cv,.slice (some ⟨Bn,0,none⟩) out.length cn,vw,vmost]→zG G' Lb=.cells false (L.flatMap encI)→zG G' Bn=.cells false ((List.replicate out.length 0).flatMap encN)→L.length=out.length→LevOk l out (lvF L)→(∀v,-1≤lvF L v∧lvF L v<out.length)→Q (.bool (decide (0≤lvF L 1))) G') :
  za0 E false lim 63 [.pointer (some ⟨A,0,none⟩)] G Q:=by
 refine zbq (by decide) e63 rfl ?_
 rw [b63,c63]
 generalize hn:out.length=n at *
 have hmk:=eq_true (show 0≤(n:Int)∧(n:Int)*8≤2 ^ 45∧(n:Int)<2 ^ 62 by omega)
 have bAX:=fun X=>(Ext.refl.app (X:=X)).cells hA
 obtain ⟨G1,e1,k1,m1⟩:=za4 (zHa hA) (.cells false [vp,vm,.slice pa (2*l.length) ca,.slice po n co,v4,.slice (some ⟨G.length,0,none⟩) n n,vw,vmost])
 have k1X:=fun X=>(Ext.refl.app (X:=X)).cells k1
 have hAl:=zHa hA
 simp only [n63,r63,bAX,hmk,make1,hlA,e1,k1X,SB,Nat.reduceLT,zCa,aOp,Nat.reduceEqDiff,zB,aUn,reduceCtorEq,zFr,place,zTu,Nat.reduceAdd,Nat.reduceLeDiff,zRe,Int.reduceEq,Int.reduceLT,Int.reduceLE]
 obtain ⟨Lb,hLb⟩:∃Lb,Lb=(G1++[Blk.cells false (List.replicate n (Value.int IntKind.i64 0)),Blk.cells false [Value.int IntKind.i64 (-1)]]).length:=⟨_,rfl⟩
 have hl1:G1.length=G.length:=m1.len
 have hLb':Lb=G.length+2:=by rw [hLb];simp;omega
 refine repeat_ok (x:=-1) (by simp;omega) (by omega) (by omega) (Sl.row (ro:=false) zIl (by rw [zHw];rfl)) fun H2 hC2 hB2 hl2=>?_
 rw [←hLb] at hB2 hl2⊢
 have k2:=hC2.cells ((Ext.refl.app).cells k1) (by simp)
 have k2X:=fun X=>(Ext.refl.app (X:=X)).cells k2
 have bn2:zG H2 G.length=.cells false (List.replicate n (Value.int IntKind.i64 0)):=hC2.cells (by rw [←hl1,zHn];rfl) (by simp)
 obtain ⟨H3,e3,k3,m3⟩:=za4 (zHa k2) (.cells false [vp,vm,.slice pa (2*l.length) ca,.slice po n co,.slice (some ⟨Lb,0,none⟩) n n,.slice (some ⟨G.length,0,none⟩) n n,vw,vmost])
 have k3X:=fun X=>(Ext.refl.app (X:=X)).cells k3
 have bL3:=m3.cells hB2 (show Lb≠A by omega)
 obtain ⟨H4,e4,k4,m4⟩:=zd4 (lim:=lim) (p:=some ⟨Lb,0,none⟩) (i:=0) zIl rfl bL3 (by omega) (by simp;omega) (0:Int)
 simp only [encI] at e4
 have xZ:∀(H1:zH),idxK 1 (.slice (some ⟨Lb,0,none⟩) n n) (.int .i64 0) H1=some (.pointer (some (elt (some ⟨Lb,0,none⟩) 1 0)),H1):=fun H1=>ix_N (i:=0) (n:=n) (Sl.row (ro:=false) zIl bL3) (by omega) (by simp) n .i64 H1
 have kA4:zG H4 A=.cells false [vp,vm,.slice pa (2*l.length) ca,.slice po n co,.slice (some ⟨Lb,0,none⟩) n n,.slice (some ⟨G.length,0,none⟩) n n,vw,vmost]:=m4.cells k3 (by omega)
 have hCG1:Chg [A] G G1:=Chg.refl.mut m1 (.inl (by simp))
 have hCG2:Chg [A] G H2:=(hCG1.app).trans' hC2 fun j hj=>by cases hj
 have hCG4:Chg [A] G H4:=(hCG2.mut m3 (.inl (by simp))).mut m4 (.inr (by omega))
 refine zRp ?_
 simp only [n63,r63,k2X,e3,k3X,hlA,xZ,e4,SB,Nat.reduceLT,zCa,aOp,Nat.reduceEqDiff,zB,aUn,reduceCtorEq,zFr,place,zTu,Nat.reduceAdd,Nat.reduceLeDiff,zRe,Int.reduceEq,Int.reduceLT,Int.reduceLE]
 have hl4:=hCG4.len
 have hLb4:Lb<H4.length:=zHa k4
 have hF:Firm A pa Lb H4 [vp,vm,.slice pa (2*l.length) ca,.slice po n co,.slice (some ⟨Lb,0,none⟩) n n,.slice (some ⟨G.length,0,none⟩) n n,vw,vmost] po ols out l co ca n:=by
  refine ⟨by rw [hn];exact ⟨rfl,rfl,rfl⟩,fun G' hG'=>?_,by rw [hn];exact hlen,by rw [hn];exact hcut,hLb4⟩
  have hcg:Chg [A] G G':=hCG4.trans' hG' fun j hj hjl=>by rw [List.mem_singleton] at hj;omega
  obtain ⟨a1,a2,a3⟩:=hkeep G' hcg
  exact ⟨hG'.cells kA4 (by rw [List.mem_singleton];omega),a1,by rw [hn];exact a2,a3⟩
 have hBf:=Bfs.start (l:=l) (out:=out) (by omega)
 rw [hn] at hBf
 refine reach_out (A:=A) (pa:=pa) (Lb:=Lb) (G1:=H4) (L:=(List.replicate n (-1)).set 0 0) (q:=[0]) (p:=some ⟨H4.length,0,none⟩) (c:=1) hF ho (by omega) (by omega) ho40 hll hBf ⟨H4.length,0,[.int .i64 0],rfl,by rw [zHn];rfl,by simp,rfl,Nat.le_refl _,.inr rfl⟩ ?_ Chg.refl.app ((Ext.refl.app).cells k4) (by rfl) (by simp only [List.length_cons,List.length_nil,Nat.zero_add,FB,Nat.reduceEqDiff]) fun fr2 G5 L5 hC5 hL5 hB5 g0=>?_
 ·have:=unmet_le ((List.replicate n (-1:Int)).set 0 0)
  simp at this⊢;omega
 have hlen5:=hB5.len
 have kA5:=hC5.cells kA4 (by rw [List.mem_singleton];omega)
 have kA5X:=fun X=>(Ext.refl.app (X:=X)).cells kA5
 have sL5:Sl G5 encI 1 (some ⟨Lb,0,none⟩) L5:=Sl.row zIl hL5
 have lV:=zdx (i:=1) sL5 (by omega)
 rw [lvF_gt (by omega)] at lV
 have xV:∀(H1:zH),idxK 1 (.slice (some ⟨Lb,0,none⟩) n n) (.int .i64 1) H1=some (.pointer (some (elt (some ⟨Lb,0,none⟩) 1 1)),H1):=fun H1=>ix_N (i:=1) (n:=n) sL5 (by omega) (by omega) n .i64 H1
 refine zRp ?_
 simp only [n63,r63,g0,kA5X,lV,xV,SB,Nat.reduceLT,zCa,aOp,Nat.reduceEqDiff,zB,aUn,reduceCtorEq,zFr,place,zTu,Nat.reduceAdd,Nat.reduceLeDiff,zRe,Int.reduceEq,Int.reduceLT,Int.reduceLE]
 have hC5':Chg [A] G G5:=hCG4.trans' hC5 fun j hj hjl=>by rw [List.mem_singleton] at hj;omega
 have bn5:zG G5 G.length=.cells false (List.replicate n (Value.int IntKind.i64 0)):=hC5.cells (m4.cells (m3.cells bn2 (by omega)) (by omega)) (by rw [List.mem_singleton];omega)
 refine hQ _ Lb G.length n n L5 hC5'.app (by omega) (Nat.le_refl _) (by omega) ((Ext.refl.app).cells kA5) ((Ext.refl.app).cells hL5) ?_ (by omega) hB5.end fun v=>⟨hB5.lo v,by have:=hB5.hi v;omega⟩
 rw [flat_repN]
 exact (Ext.refl.app).cells bn5
structure OS (Bo:Nat) (Y:List Nat) (G:zH) (ols:List Ref) (out:List (List Nat)):Prop where
 ou:zG G Bo=.cells false (ols.flatMap encO)
 us:∀v,v<out.length→Own (Bo+1) G encN 1 (gt ols v).1 (gt ols v).2.2 (gt out v)∧(gt ols v).2.1=(gt out v).length
 len:ols.length=out.length
 s1:∀u v a b,u<out.length→v<out.length→u≠v→(gt ols u).1=some a→(gt ols v).1=some b→a.block≠b.block
 sy:∀b∈Y,b<G.length∧b≠Bo∧∀u a,u<out.length→(gt ols u).1=some a→a.block≠b
theorem zOm {p:Option Addr} {b:Nat}:b∈opB p↔∃a,p=some a∧a.block=b:=by
 cases p with
 | none=>simp [opB]
 | some a=>simp [opB];exact eq_comm
theorem zai {α:Type} {lo e c:Nat} {G G':zH} {enc:α→List Value} {p:Option Addr} {q:List α} (h:Own lo G enc e p c q) (hk:∀a,p=some a→zG G' a.block=zG G a.block):Own lo G' enc e p c q:=by
 rcases h with h | ⟨R,h1,h2,h3,h4⟩
 ·exact .inl h
 ·exact .inr ⟨R,h1,h2,by rw [hk _ h1];exact h3,h4⟩
theorem OS.sim {Bo:Nat} {Y:List Nat} {G G':zH} {ols:List Ref} {out:List (List Nat)} (h:OS Bo Y G ols out) (hb:zG G' Bo=zG G Bo) (hk:∀u a,u<out.length→(gt ols u).1=some a→zG G' a.block=zG G a.block) (hl:G.length≤G'.length):OS Bo Y G' ols out:=
 ⟨by rw [hb];exact h.ou,fun v hv=>⟨zai (h.us v hv).1 fun a ha=>hk v a hv ha,(h.us v hv).2⟩,h.len,h.s1,fun b hbY=>⟨Nat.lt_of_lt_of_le (h.sy b hbY).1 hl,(h.sy b hbY).2⟩⟩
theorem OS.push {lim Bo f x:Nat} {Y:List Nat} {G:zH} {ols:List Ref} {out:List (List Nat)} (h:OS Bo Y G ols out) (hl:lim≤Bo) (hf:f<out.length) (hb:(gt out f).length<2 ^ 30) :
  ∃G2 G3 c',appendLV lim (some (G.length+1)) 1 8 false (.slice (gt ols f).1 (gt out f).length (gt ols f).2.2) (.slice (some ⟨G.length,0,none⟩) 1 1) (G++[.cells false [.int .i64 (x:Int)],.dead])=some (.slice (some ⟨G.length+1,0,none⟩) ((gt out f).length+1) c',G2++[])∧
   (∀Z,AM.storeAt lim (G2++Z) (elt (some ⟨Bo,0,none⟩) 1 f) [.slice (some ⟨G.length+1,0,none⟩) ((gt out f).length+1) c']=some (G3++Z))∧
   OS Bo Y G3 (ols.set f (some ⟨G.length+1,0,none⟩,(gt out f).length+1,c')) (out.set f (gt out f++[x]))∧(∀b,b<Bo∨b∈Y→zG G3 b=zG G b)∧(∀b,b<Bo→zG G2 b=zG G b)∧G.length+2≤G3.length:=by
 obtain ⟨hO,hcut⟩:=h.us f hf
 have hBl:=zHa h.ou
 have hne:∀j,(∀a,(gt ols f).1=some a→j≠a.block)∨¬(∀a,(gt ols f).1=some a→j≠a.block):=fun _=>Classical.em _
 obtain ⟨G2,p',c',e4,O4,C4,K4,hl4,hp4,_⟩:=Own.moreD hO (lim':=lim) (d:=G.length+1) (bytes:=8) (by omega) zbf (by decide) [x] (by simp;unfold za3;omega) (by simp;omega) (by omega) [.cells false [.int .i64 (x:Int)],.dead] (by omega) (by simp) (x:=.slice (some ⟨G.length,0,none⟩) 1 1) (str:=false)
  (zbk (m:=[x]) (Sl.row (ro:=false) zbf (by rw [zHn];rfl))) rfl
 simp only [List.length_cons,List.length_nil,Nat.zero_add,List.append_nil] at e4 O4 K4
 have hp:=hp4 (by simp)
 subst hp
 have O4l:=(O4.block rfl).2
 simp only at O4l
 have kB:zG G2 Bo=.cells false (ols.flatMap encO):=(K4 Bo hBl fun a ha=>by have:=(hO.block ha).1;omega).trans h.ou
 obtain ⟨G3,e5,k5,m5⟩:=zd4 (lim:=lim) (p:=some ⟨Bo,0,none⟩) (i:=f) encO_len rfl kB hl (by rw [h.len];exact hf) (some ⟨G.length+1,0,none⟩,(gt out f).length+1,c')
 have hfl:f<ols.length:=by rw [h.len];exact hf
 have K5:∀j,j<G.length→j≠Bo→(∀a,(gt ols f).1=some a→j≠a.block)→zG G3 j=zG G j:=fun j hj hB hn=>(m5.other j hB).trans (K4 j hj hn)
 have eg:∀u,gt (ols.set f (some ⟨G.length+1,0,none⟩,(gt out f).length+1,c')) u=if u=f then (some ⟨G.length+1,0,none⟩,(gt out f).length+1,c') else gt ols u:=fun u=>gt_set hfl
 have ego:∀u,gt (out.set f (gt out f++[x])) u=if u=f then gt out f++[x] else gt out u:=fun u=>gt_set hf
 refine ⟨G2,G3,c', ?_,e5,⟨k5,fun v hv=>?_,by simp [h.len],fun u v a b hu hv huv ha hb=>?_,fun b hbY=>?_⟩,fun b hb=>?_,fun b hb=>K4 b (by omega) fun a ha=>by have:=(hO.block ha).1;omega,by have:=m5.len;omega⟩
 ·rw [Own.appL hO,List.append_nil];exact e4
 ·rw [List.length_set] at hv
  rw [eg,ego]
  by_cases hvf:v=f
  ·subst hvf
   rw [if_pos rfl,if_pos rfl]
   refine ⟨O4.mut m5 fun a ha e=>by cases ha;simp only at e;omega,by simp⟩
  ·rw [if_neg hvf,if_neg hvf]
   refine ⟨zai (h.us v hv).1 fun a ha=>?_,(h.us v hv).2⟩
   have hba:=(h.us v hv).1.block ha
   exact K5 a.block hba.2 (by omega) fun a' ha'=>h.s1 v f a a' hv hf hvf ha ha'
 ·rw [List.length_set] at hu hv
  rw [eg] at ha hb
  by_cases huf:u=f
  ·rw [if_pos huf] at ha
   rw [if_neg (by omega)] at hb
   cases ha
   have:=((h.us v hv).1.block hb).2
   simp only;omega
  ·rw [if_neg huf] at ha
   by_cases hvf:v=f
   ·rw [if_pos hvf] at hb
    cases hb
    have:=((h.us u hu).1.block ha).2
    simp only;omega
   ·rw [if_neg hvf] at hb
    exact h.s1 u v a b hu hv huv ha hb
 ·obtain ⟨y1,y2,y3⟩:=h.sy b hbY
  refine ⟨by have:=m5.len;omega,y2,fun u a hu ha=>?_⟩
  rw [List.length_set] at hu
  rw [eg] at ha
  split at ha
  ·cases ha;simp only;omega
  ·exact y3 u a hu ha
 ·rcases hb with hb | hb
  ·exact K5 b (by omega) (by omega) fun a ha=>by have:=(hO.block ha).1;omega
  ·obtain ⟨y1,y2,y3⟩:=h.sy b hb
   exact K5 b y1 y2 fun a ha e=>y3 f a hf ha e.symm
structure JS (A Bo:Nat) (X:List Nat) (G:zH) (vp vm v4 v5 vw vmost:Value) (pa:Option Addr) (ca co:Nat) (ols:List Ref) (out:List (List Nat)) (l:List Pr):Prop where
 hdr:zG G A=.cells false [vp,vm,.slice pa (2*l.length) ca,.slice (some ⟨Bo,0,none⟩) out.length co,v4,v5,vw,vmost]
 ar:Own (Bo+1) G enc2 2 pa ca (zbr l)
 os:OS Bo (opB pa++X) G ols out
 ab:A<Bo
 ax:∀b∈X,b∉opB pa∧b≠A
theorem OS.withY {Bo:Nat} {Y Y':List Nat} {G:zH} {ols:List Ref} {out:List (List Nat)} (h:OS Bo Y G ols out) (hy:∀b∈Y',b<G.length∧b≠Bo∧∀u a,u<out.length→(gt ols u).1=some a→a.block≠b):OS Bo Y' G ols out:=⟨h.ou,h.us,h.len,h.s1,hy⟩
theorem arcsV_app {l m:List Pr}:zbr (l++m)=zbr l++zbr m:=List.flatMap_append
theorem join_ok [OB] {lim A Bo f t:Nat} {r:Int} {X:List Nat} {G:zH} {vp vm v4 v5 vw vmost:Value} {pa:Option Addr} {ca co:Nat} {ols:List Ref} {out:List (List Nat)} {l:List Pr} {Q:Value→zH→Prop}
  (h:JS A Bo X G vp vm v4 v5 vw vmost pa ca co ols out l) (hla:lim≤A) (hf:f<out.length) (ht:t<out.length) (hb:∀v,(gt out v).length<2 ^ 29) (hll:l.length<2 ^ 29)
  (hQ:∀G' pa' ca' ols',JS A Bo X G' vp vm v4 v5 vw vmost pa' ca' co ols' (joinO out f t (2*l.length)) (l++[⟨t,f,r,0⟩])→(∀b,(b<Bo∧b≠A)∨b∈X→zG G' b=zG G b)→G.length≤G'.length→Q (.int .i64 ((2*l.length:Nat):Int)) G') :
  za0 E false lim 61 [.pointer (some ⟨A,0,none⟩),.int .i64 (f:Int),.int .i64 (t:Int),.int .i64 r] G Q:=by
 refine zbq (by decide) e61 rfl ?_
 rw [b61,c61]
 have hab:=h.ab
 have bAX:=fun X=>(Ext.refl.app (X:=X)).cells h.hdr
 obtain ⟨G2,e2,O2,C2,hl2⟩:=Own.moreF h.ar (lim':=lim) (bytes:=16) (by omega) z2l (by decide) [((t:Int),r),((f:Int),0)] (by simp) (by rw [zah];simp;unfold za3;omega) (by rw [zah];simp;omega) [.cells false [.int .i64 (t:Int),.int .i64 r,.int .i64 (f:Int),.int .i64 0]] (x:=.slice (some ⟨G.length,0,none⟩) 2 2) (str:=false)
  (zbk (m:=[((t:Int),r),((f:Int),(0:Int))]) (Sl.row (ro:=false) z2l (by rw [zHn];rfl))) rfl
 rw [zah] at e2
 simp only [List.length_append,List.length_cons,List.length_nil,Nat.zero_add,Nat.reduceAdd] at e2 O2 hl2
 have hCb:∀b∈opB pa,Bo<b∧b<G.length:=fun b hb=>by
  obtain ⟨a,rfl,rfl⟩:=zOm.1 hb
  have:=h.ar.block rfl;omega
 have k2:=C2.cells h.hdr (fun hm=>by have:=hCb _ hm;omega)
 have k2X:=fun X=>(Ext.refl.app (X:=X)).cells k2
 obtain ⟨G3,e3,k3,m3⟩:=za4 (zHa k2) (.cells false [vp,vm,.slice (some ⟨G.length+1,0,none⟩) (2*l.length+2) (loose 2),.slice (some ⟨Bo,0,none⟩) out.length co,v4,v5,vw,vmost])
 have k3X:=fun X=>(Ext.refl.app (X:=X)).cells k3
 have hAl:=zHa h.hdr
 have hBl:=zHa h.os.ou
 have hl3:G.length+1<G3.length:=by have:=m3.len;omega
 have sim3:∀b,b<G.length→b≠A→b∉opB pa→zG G3 b=zG G b:=fun b hb hA hp=>(m3.other b hA).trans (C2.other b hb hp)
 have os3:OS Bo (opB (some ⟨G.length+1,0,none⟩)++X) G3 ols out:=by
  refine (h.os.sim (sim3 Bo hBl (by omega) fun hm=>by have:=hCb _ hm;omega) (fun u a hu ha=>?_) (by omega)).withY fun b hb=>?_
  ·have hba:=(h.os.us u hu).1.block ha
   exact sim3 a.block hba.2 (by omega) fun hm=>(h.os.sy a.block (List.mem_append_left _ hm)).2.2 u a hu ha rfl
  ·rcases List.mem_append.1 hb with hb | hb
   ·simp only [opB,List.mem_singleton] at hb
    subst hb
    exact ⟨by omega,by omega,fun u a hu ha=>by have:=(h.os.us u hu).1.block ha;omega⟩
   ·obtain ⟨y1,y2,y3⟩:=h.os.sy b (List.mem_append_right _ hb)
    exact ⟨by omega,y2,y3⟩
 obtain ⟨G4,G5,c5,e5,e6,os5,K5,K4,hl5⟩:=os3.push (lim:=lim) (f:=f) (x:=2*l.length) (by omega) hf (by have:=hb f;omega)
 have sO3:Sl G3 encO 1 (some ⟨Bo,0,none⟩) ols:=Sl.row encO_len os3.ou
 have hlen:=h.os.len
 have lO3:=ld_O (i:=f) sO3 (by omega)
 rw [(h.os.us f hf).2] at lO3
 have xO3:=ix_N (i:=f) (n:=out.length) sO3 hf hlen
 have k4X:=fun X=>(Ext.refl.app (X:=X)).cells ((K4 A hab).trans k3)
 have k5:zG G5 A=_:=(K5 A (.inl hab)).trans k3
 have k5X:=fun X=>(Ext.refl.app (X:=X)).cells k5
 have hlen5:(out.set f (gt out f++[2*l.length])).length=out.length:=List.length_set ..
 have ego:gt (out.set f (gt out f++[2*l.length])) t=if t=f then gt out f++[2*l.length] else gt out t:=gt_set hf
 have hb5:(gt (out.set f (gt out f++[2*l.length])) t).length<2 ^ 30:=by
  rw [ego]
  have:=hb f;have:=hb t
  split<;>simp<;>omega
 obtain ⟨G6,G7,c7,e7,e8,os7,K7,K6,hl7⟩:=os5.push (lim:=lim) (f:=t) (x:=2*l.length+1) (by omega) (by omega) hb5
 have sO5:Sl G5 encO 1 (some ⟨Bo,0,none⟩) (ols.set f (some ⟨G3.length+1,0,none⟩,(gt out f).length+1,c5)):=Sl.row encO_len os5.ou
 have lO5:=ld_O (i:=t) sO5 (by simp;omega)
 rw [(os5.us t (by omega)).2] at lO5
 have xO5:=ix_N (i:=t) (n:=out.length) sO5 ht (by simp;omega)
 have k6X:=fun X=>(Ext.refl.app (X:=X)).cells ((K6 A hab).trans k5)
 have k7:zG G7 A=_:=(K7 A (.inl hab)).trans k5
 have wl:IntKind.i64.wrap (((2*l.length:Nat):Int)+1)=((2*l.length+1:Nat):Int):=zWn (by omega)
 have mk1:zG (((G4++[]).set G3.length Blk.dead).set (G3.length+1) Blk.dead) A=.cells false [vp,vm,.slice (some ⟨G.length+1,0,none⟩) (2*l.length+2) (loose 2),.slice (some ⟨Bo,0,none⟩) out.length co,v4,v5,vw,vmost]:=by rw [zHs (by omega),zHs (by omega)];exact k4X []
 have um1:((((G4++[]).set G3.length Blk.dead).set (G3.length+1) Blk.dead).set G3.length (zG (G4++[]) G3.length)).set (G3.length+1) (zG (G4++[]) (G3.length+1))=G4++[]:=zaq G3.length [0,1] (G4++[])
 have mk2:zG (((G6++[]).set G5.length Blk.dead).set (G5.length+1) Blk.dead) A=.cells false [vp,vm,.slice (some ⟨G.length+1,0,none⟩) (2*l.length+2) (loose 2),.slice (some ⟨Bo,0,none⟩) out.length co,v4,v5,vw,vmost]:=by rw [zHs (by omega),zHs (by omega)];exact k6X []
 have um2:((((G6++[]).set G5.length Blk.dead).set (G5.length+1) Blk.dead).set G5.length (zG (G6++[]) G5.length)).set (G5.length+1) (zG (G6++[]) (G5.length+1))=G6++[]:=zaq G5.length [0,1] (G6++[])
 simp only [n61,r61,mk1,um1,mk2,um2,bAX,e2,k2X,hla,e3,k3X,xO3,lO3,e5,e6,k4X,k5X,xO5,lO5,wl,e7,e8,k6X,SB,seval,zCa,aOp,zB,aUn,reduceCtorEq,zFr,place,zTu,zRe]
 have e2l:2*(l++[(⟨t,f,r,0⟩:Pr)]).length=2*l.length+2:=by simp;omega
 have har:zbr (l++[(⟨t,f,r,0⟩:Pr)])=zbr l++[((t:Int),r),((f:Int),0)]:=arcsV_app
 have hY:G.length+1∈opB (some (⟨G.length+1,0,none⟩:Addr))++X:=List.mem_append_left _ (by simp [opB])
 have O7:Own (Bo+1) G7 enc2 2 (some ⟨G.length+1,0,none⟩) (loose 2) (zbr l++[((t:Int),r),((f:Int),0)]):=zai ((O2.mut m3 fun a ha e=>by cases ha;simp only at e;omega).le (by omega)) fun a ha=>by
  cases ha
  exact (K7 _ (.inr hY)).trans (K5 _ (.inr hY))
 refine hQ (G7++[]) (some ⟨G.length+1,0,none⟩) (loose 2) ((ols.set f (some ⟨G3.length+1,0,none⟩,(gt out f).length+1,c5)).set t (some ⟨G5.length+1,0,none⟩,(gt (out.set f (gt out f++[2*l.length])) t).length+1,c7)) ⟨?_, ?_, ?_,hab,fun b hbX=>⟨fun hm=>?_,(h.ax b hbX).2⟩⟩ (fun b hb=>?_) (by simp;omega)
 ·rw [e2l,joinO_len]
  exact (Ext.refl.app).cells k7
 ·rw [har];exact O7.app _
 ·rw [List.append_nil];exact os7
 ·simp only [opB,List.mem_singleton] at hm
  have:=(h.os.sy b (List.mem_append_right _ hbX)).1
  omega
 ·rw [List.append_nil]
  rcases hb with ⟨hb,hbA⟩ | hb
  ·exact (K7 b (.inl hb)).trans ((K5 b (.inl hb)).trans (sim3 b (by omega) hbA fun hm=>by have:=hCb _ hm;omega))
  ·have hbl:=h.os.sy b (List.mem_append_right _ hb)
   exact (K7 b (.inr (List.mem_append_right _ hb))).trans ((K5 b (.inr (List.mem_append_right _ hb))).trans (sim3 b hbl.1 (h.ax b hb).2 (h.ax b hb).1))
def restD (l:Leg) (dl:Int):Nat→Nat→List (Leg×Int)
 | 0,_=>[]
 | k+1,d=>cntD l dl d++restD l dl k (d+1)
theorem range_split {f:Nat→List (Leg×Int)}:∀(k d:Nat),(List.range (d+k)).flatMap f=(List.range d).flatMap f++(List.range k).flatMap fun j=>f (d+j)
 | 0,d=>by simp
 | k+1,d=>by rw [←Nat.add_assoc,List.range_succ,List.flatMap_append,range_split k d,List.range_succ,List.flatMap_append,List.append_assoc];simp
theorem restD_eq {l:Leg} {dl:Int}:∀(k d:Nat),restD l dl k d=(List.range k).flatMap fun j=>cntD l dl (d+j)
 | 0,d=>rfl
 | k+1,d=>by
   have:=range_split (f:=fun j=>cntD l dl (d+j)) k 1
   rw [Nat.add_comm 1 k] at this
   rw [restD,restD_eq k (d+1),this]
   simp [Nat.add_assoc,Nat.add_comm,Nat.add_left_comm]
theorem legC_rest {l:Leg} {dl:Int} (hl:Fine l) {d0 n:Nat} (h0:(d0:Int)=max 0 (dl-20160) / 1440) (hn:d0+n=(dl / 1440+1).toNat):legC l dl=restD l dl n d0:=by
 unfold legC
 rw [←hn,range_split,restD_eq]
 have:(List.range d0).flatMap (cntD l dl)=[]:=by
  rw [List.flatMap_eq_nil_iff]
  intro d hd
  rw [List.mem_range] at hd
  exact cntD_early hl (by omega)
 rw [this,List.nil_append]
theorem counted_rule [OB] {lim Y Bd Bn Bt:Nat} {pp pl:Option Addr} {cp cl np:Nat} {L:List Leg} {to dl:Int} {H:zH} {Q:Value→zH→Prop} (I:List (Leg×Int)→List Nat→zH→Prop) (K:List Nat)
  (hI:∀rest X X' H H',I rest X H→Chg [] H H'→(∀b∈X',b∈X∨H.length≤b∧b<H'.length)→I rest X' H')
  (hround:∀x rest X H,lim≤H.length→x∈zCc L to dl→(∀j∈K,j∈X)→I (x::rest) X H→CallY E false lim Y [.agg (encL x.1).toArray,.agg #[.int .i64 x.2,.int .i64 (x.2+x.1.mins)]] H fun v H'=>v=.bool true∧I rest X H'∧H.length≤H'.length∧∀j∈X,zG H' j=zG H j)
  (hBd:zG H Bd=.cells false [.int .i64 dl]) (hBn:zG H Bn=.cells false (netV pp np cp pl L.length cl)) (hBt:zG H Bt=.cells false [.int .i64 to]) (hs:Sl H encL 8 pl L) (hK:Bd∈K∧Bn∈K∧Bt∈K∧∀a,pl=some a→L≠[]→a.block∈K) (hKl:∀j∈K,j<H.length) (hF:∀l∈L,Fine l) (hLl:L.length<2 ^ 40) (hd0:0≤dl) (hd1:dl≤za1) (hlim:lim≤H.length)
  (h0:I (zCc L to dl) K H) (hQ:∀H',I [] K H'→(∀j∈K,zG H' j=zG H j)→H.length≤H'.length→Q (.tuple #[]) H') :
  za0 E false lim 74 [.func (.yield Y) #[] #[],.pointer (some ⟨Bd,0,none⟩),.pointer (some ⟨Bn,0,none⟩),.pointer (some ⟨Bt,0,none⟩)] H Q:=by
 refine zbq (by decide) e74 rfl ?_
 rw [b74,c74]
 have mt:za1=1051898399:=rfl
 have hBdX:=fun X=>(Ext.refl.app (X:=X)).cells hBd
 have hBnX:=fun X=>(Ext.refl.app (X:=X)).cells hBn
 have wd:IntKind.i64.wrap (dl-20160)=dl-20160:=zWi (by omega) (by omega)
 simp only [n74,r74,hBdX,hBnX,zNl,zN0,zN1,wd,max_v,SB,seval,zCa,aOp,zB,aUn,reduceCtorEq,zFr,place,zTu,zRe]
 generalize hfm:max 0 (dl-20160)=fm
 have stay:∀G,(∀j∈K,zG G j=zG H j)→zG G Bd=.cells false [.int .i64 dl]∧zG G Bt=.cells false [.int .i64 to]∧Sl G encL 8 pl L:=fun G hG=>by
  refine ⟨by rw [hG _ hK.1];exact hBd,by rw [hG _ hK.2.2.1];exact hBt, ?_⟩
  cases hp:pl with
  | none=>rw [hp] at hs;exact hs
  | some a=>
    rw [hp] at hs
    refine ⟨hs.1,fun hne=>?_⟩
    obtain ⟨ro,c,k1,k2⟩:=hs.2 hne
    exact ⟨ro,c,by rw [hG _ (hK.2.2.2 a hp hne)];exact k1,k2⟩
 have grow:∀(G:zH) Z,H.length≤G.length→(∀j∈K,zG G j=zG H j)→∀j∈K,zG (G++Z) j=zG H j:=fun G Z hl hG j hj=>by
  rw [zHo (by have:=hKl j hj;omega)];exact hG j hj
 refine zRr (fun i=>L.length-i) (fun i fr G=>i≤L.length∧fr 0=.func (.yield Y) #[] #[]∧fr 1=.pointer (some ⟨Bd,0,none⟩)∧fr 3=.pointer (some ⟨Bt,0,none⟩)∧fr 5=.int .i64 fm∧fr 15=.slice pl L.length cl∧fr 16=.int .i64 (L.length:Int)∧fr 17=.int .i64 (i:Int)∧H.length≤G.length∧(∀j∈K,zG G j=zG H j)∧I ((L.drop i).flatMap (oneC to dl)) K G) 0
  ⟨Nat.zero_le _,(by rfl),(by rfl),(by rfl),(by rfl),(by rfl),(by rfl),by rfl,by simp,grow H _ (Nat.le_refl _) fun _ _=>rfl,hI _ _ _ _ _ h0 Chg.refl.app fun b hb=>.inl hb⟩ ?_
 intro i fr G ⟨hi,g0,g1,g3,g5,g15,g16,g17,hlG,hKG,hIG⟩ hN
 rw [zRc l74_2.eq_1]
 obtain ⟨bd,bt,sL⟩:=stay G hKG
 refine zRp ?_
 by_cases hlt:i<L.length
 case neg=>
  obtain rfl:i=L.length:=by omega
  rw [List.drop_length,List.flatMap_nil] at hIG
  simp only [n74,r74,g0,g1,g3,g5,g15,g16,g17,hlt,SB,seval,zCa,aOp,zB,aUn,reduceCtorEq,zFr,place,zTu,zRe]
  exact hQ _ (hI _ _ _ _ _ hIG Chg.refl.app fun b hb=>.inl hb) (grow G _ hlG hKG) (by simp;omega)
 have hll:=zag (l:=L) (i:=i) hlt
 have hdrop:(L.drop i).flatMap (oneC to dl)=oneC to dl (gt L i)++(L.drop (i+1)).flatMap (oneC to dl):=by rw [List.drop_eq_getElem_cons hlt,List.flatMap_cons,zGl hlt]
 have hsub:∀x∈oneC to dl (gt L i),x∈zCc L to dl:=fun x hx=>List.mem_flatMap.2 ⟨_,hll,hx⟩
 have lL:=fun X=>(sL.app X).loadCells zLl hlt
 have xL:=fun c (kk:IntKind) (H1:zH)=>sL.idx (c:=c) (k:=kk) (H1:=H1) hlt
 have w1:IntKind.i64.wrap ((i:Int)+1)=((i+1:Nat):Int):=zWn (by omega)
 have hFl:=hF _ hll
 have btX:=fun X=>(Ext.refl.app (X:=X)).cells bt
 have hlL:lim≤G.length:=by omega
 rw [hdrop] at hIG
 generalize gt L i=l at *
 generalize hrest:(L.drop (i+1)).flatMap (oneC to dl)=rest at *
 by_cases hf:l.frm=to
 ·have e0:oneC to dl l=[]:=if_pos hf
  rw [e0,List.nil_append] at hIG
  simp only [n74,r74,g0,g1,g3,g5,g15,g16,g17,hlt,lL,xL,w1,zLl,zL0,zL1,zL2,zL3,zL4,zL5,zL6,zL7,zTa,zSa,hlL,btX,eq_true hf,SB,seval,zCa,aOp,zB,aUn,reduceCtorEq,zFr,place,zTu,zRe]
  exact hN (i+1) _ _ ⟨by omega,by exact g0,by exact g1,by exact g3,by exact g5,by exact g15,by exact g16,(by rfl),by simp;omega,grow G _ hlG hKG,by rw [hrest];exact hI _ _ _ _ _ hIG Chg.refl.app fun b hb=>.inl hb⟩ (by omega)
 obtain ⟨d0,hd0e⟩:∃d0:Nat,(d0:Int)=fm / 1440:=⟨(fm / 1440).toNat,by omega⟩
 obtain ⟨n,hne⟩:∃n,d0+n=(dl / 1440+1).toNat:=⟨(dl / 1440+1).toNat-d0,by omega⟩
 have e1:oneC to dl l=restD l dl n d0:=by
  have:oneC to dl l=legC l dl:=if_neg hf
  rw [this,legC_rest hFl (by rw [hfm];exact hd0e) hne]
 rw [e1] at hIG hsub
 have wq:IntKind.i64.wrap (Int.tdiv fm 1440)=(d0:Int):=by rw [Int.tdiv_eq_ediv_of_nonneg (by omega),hd0e];exact zWi (by omega) (by omega)
 simp only [n74,r74,g0,g1,g3,g5,g15,g16,g17,hlt,lL,xL,w1,zLl,zL0,zL1,zL2,zL3,zL4,zL5,zL6,zL7,zTa,zSa,hlL,btX,eq_false hf,wq,SB,seval,zCa,aOp,zB,aUn,reduceCtorEq,zFr,place,zTu,zRe]
 refine zRr (fun j=>n-j) (fun j fr2 G2=>j≤n∧fr2 0=.func (.yield Y) #[] #[]∧fr2 1=.pointer (some ⟨Bd,0,none⟩)∧fr2 3=.pointer (some ⟨Bt,0,none⟩)∧fr2 5=.int .i64 fm∧fr2 7=.pointer (some ⟨G.length,0,none⟩)∧fr2 8=.int .i64 ((d0+j:Nat):Int)∧fr2 15=.slice pl L.length cl∧fr2 16=.int .i64 (L.length:Int)∧fr2 17=.int .i64 (i:Int)∧G.length<G2.length∧(∀j∈K,zG G2 j=zG H j)∧zG G2 G.length=.cells false (encL l)∧I (restD l dl (n-j) (d0+j)++rest) (G.length::K) G2) 0
  ⟨Nat.zero_le _,by exact g0,by exact g1,by exact g3,by exact g5,(by rfl),by rfl,by exact g15,by exact g16,by exact g17,by simp,grow G _ hlG hKG,by rw [zHn];rfl,hI _ _ _ _ _ hIG Chg.refl.app fun b hb=>by
   rcases List.mem_cons.1 hb with rfl | hb
   ·exact .inr ⟨Nat.le_refl _,by simp⟩
   ·exact .inl hb⟩ ?_
 intro j fr2 G2 ⟨hj,q0,q1,q3,q5,q7,q8,q15,q16,q17,hlG2,hKG2,b7,hIG2⟩ hN2
 rw [zRc l74_1.eq_1]
 obtain ⟨bd2,bt2,sL2⟩:=stay G2 hKG2
 have bd2X:=fun X=>(Ext.refl.app (X:=X)).cells bd2
 have b7X:=fun X=>(Ext.refl.app (X:=X)).cells b7
 have wdl:IntKind.i64.wrap (Int.tdiv dl 1440)=dl / 1440:=by rw [Int.tdiv_eq_ediv_of_nonneg hd0];exact zWi (by omega) (by omega)
 have hlL2:lim≤G2.length:=by omega
 refine zRp ?_
 by_cases hjn:j<n
 case neg=>
  obtain rfl:j=n:=by omega
  have hc:¬((d0+j:Nat):Int)≤dl / 1440:=by omega
  rw [Nat.sub_self,restD,List.nil_append] at hIG2
  simp only [n74,r74,zLl,zL0,zL1,zL2,zL3,zL4,zL5,zL6,zL7,zTa,q0,q1,q3,q5,q7,q8,q15,q16,q17,bd2X,b7X,wdl,eq_false hc,w1,SB,seval,zCa,aOp,zB,aUn,reduceCtorEq,zFr,place,zTu,zRe]
  exact hN (i+1) _ _ ⟨by omega,by exact q0,by exact q1,by exact q3,by exact q5,by exact q15,by exact q16,(by rfl),by simp;omega,grow G2 _ (by omega) hKG2,by rw [hrest];exact hI _ _ _ _ _ hIG2 Chg.refl.app fun b hb=>.inl (List.mem_cons_of_mem _ hb)⟩ (by omega)
 have hc:((d0+j:Nat):Int)≤dl / 1440:=by omega
 have erest:restD l dl (n-j) (d0+j)=cntD l dl (d0+j)++restD l dl (n-(j+1)) (d0+(j+1)):=by rw [show n-j=n-(j+1)+1 by omega,restD];rfl
 rw [erest,List.append_assoc] at hIG2
 have hon:=fun (H:zH) (mp:Bool) (lim:Nat) (Q:Value→zH→Prop)=>on_ok (mp:=mp) (lim:=lim) (d:=((d0+j:Nat):Int)) (H:=H) (Q:=Q) hFl
 rw [if_pos ⟨by omega,by omega⟩,Int.toNat_natCast] at hon
 have wj:IntKind.i64.wrap (((d0+j:Nat):Int)+1)=((d0+(j+1):Nat):Int):=by rw [zWi (by omega) (by omega)];omega
 by_cases hg:goes l (d0+j)=true
 case neg=>
  have ec:cntD l dl (d0+j)=[]:=if_neg fun h=>hg h.1
  rw [ec,List.nil_append] at hIG2
  have ed:depOn l (d0+j)=none:=if_neg hg
  rw [ed] at hon
  simp only [depV] at hon
  simp only [n74,r74,zLl,zL0,zL1,zL2,zL3,zL4,zL5,zL6,zL7,zTa,q0,q1,q3,q5,q7,q8,q15,q16,q17,bd2X,b7X,wdl,eq_true hc,hon,zSa,hlL2,wj,SB,seval,zCa,aOp,zB,aUn,reduceCtorEq,zFr,place,zTu,zRe]
  exact hN2 (j+1) _ _ ⟨by omega,by exact q0,by exact q1,by exact q3,by exact q5,by exact q7,(by rfl),by exact q15,by exact q16,by exact q17,by simp;omega,grow G2 _ (by omega) hKG2,(Ext.refl.app).cells b7,hI _ _ _ _ _ hIG2 Chg.refl.app fun b hb=>.inl hb⟩ (by omega)
 have ed:depOn l (d0+j)=some (1440*((d0+j:Nat):Int)+l.dep,1440*((d0+j:Nat):Int)+l.dep+l.mins):=if_pos hg
 rw [ed] at hon
 simp only [depV] at hon
 by_cases h1:1440*((d0+j:Nat):Int)+l.dep<fm
 ·have ec:cntD l dl (d0+j)=[]:=if_neg fun h=>by have:=h.2.1;omega
  rw [ec,List.nil_append] at hIG2
  simp only [n74,r74,zLl,zL0,zL1,zL2,zL3,zL4,zL5,zL6,zL7,zTa,q0,q1,q3,q5,q7,q8,q15,q16,q17,bd2X,b7X,wdl,eq_true hc,hon,zSa,hlL2,wj,eq_true h1,SB,seval,zCa,aOp,zB,aUn,reduceCtorEq,zFr,place,zTu,zRe]
  exact hN2 (j+1) _ _ ⟨by omega,by exact q0,by exact q1,by exact q3,by exact q5,by exact q7,(by rfl),by exact q15,by exact q16,by exact q17,by simp;omega,grow G2 _ (by omega) hKG2,(Ext.refl.app).cells b7,hI _ _ _ _ _ hIG2 Chg.refl.app fun b hb=>.inl hb⟩ (by omega)
 by_cases h2:dl<1440*((d0+j:Nat):Int)+l.dep+l.mins
 ·have ec:cntD l dl (d0+j)=[]:=if_neg fun h=>by have:=h.2.2;omega
  rw [ec,List.nil_append] at hIG2
  simp only [n74,r74,zLl,zL0,zL1,zL2,zL3,zL4,zL5,zL6,zL7,zTa,q0,q1,q3,q5,q7,q8,q15,q16,q17,bd2X,b7X,wdl,eq_true hc,hon,zSa,hlL2,wj,eq_false h1,eq_true h2,SB,seval,zCa,aOp,zB,aUn,reduceCtorEq,zFr,place,zTu,zRe]
  exact hN2 (j+1) _ _ ⟨by omega,by exact q0,by exact q1,by exact q3,by exact q5,by exact q7,(by rfl),by exact q15,by exact q16,by exact q17,by simp;omega,grow G2 _ (by omega) hKG2,(Ext.refl.app).cells b7,hI _ _ _ _ _ hIG2 Chg.refl.app fun b hb=>.inl hb⟩ (by omega)
 have ec:cntD l dl (d0+j)=[(l,1440*((d0+j:Nat):Int)+l.dep)]:=if_pos ⟨hg,by omega,by omega⟩
 have hin:(l,1440*((d0+j:Nat):Int)+l.dep)∈zCc L to dl:=hsub _ (by
  rw [restD_eq]
  exact List.mem_flatMap.2 ⟨j,List.mem_range.2 hjn,by rw [ec];exact List.mem_singleton_self _⟩)
 rw [ec] at hIG2
 generalize 1440*((d0+j:Nat):Int)+l.dep=a at *
 simp only [n74,r74,zLl,zL0,zL1,zL2,zL3,zL4,zL5,zL6,zL7,zTa,q0,q1,q3,q5,q7,q8,q15,q16,q17,bd2X,b7X,wdl,eq_true hc,hon,zSa,hlL2,wj,eq_false h1,eq_false h2,SB,seval,zCa,aOp,zB,aUn,reduceCtorEq,zFr,place,zTu,zRe]
 refine CallY.mono (hround (l,a) _ (G.length::K) _ (by simp;omega) hin (fun j hj=>List.mem_cons_of_mem _ hj) (hI _ _ _ _ _ hIG2 Chg.refl.app fun b hb=>.inl hb)) fun v G3 ⟨hv,hI3,hl3,hk3⟩=>?_
 subst hv
 simp only [List.length_append,List.length_cons,List.length_nil,Nat.zero_add] at hl3
 have hkK:∀j∈K,zG G3 j=zG H j:=fun j hj=>(hk3 j (List.mem_cons_of_mem _ hj)).trans (grow G2 _ (by omega) hKG2 j hj)
 have hb7:zG G3 G.length=.cells false (encL l):=(hk3 _ List.mem_cons_self).trans ((Ext.refl.app).cells b7)
 refine zRp ?_
 simp only [n74,r74,q0,q1,q3,q5,q7,q8,q15,q16,q17,wj,SB,seval,zCa,aOp,zB,aUn,reduceCtorEq,zFr,place,zTu,zRe]
 exact hN2 (j+1) _ _ ⟨by omega,by exact q0,by exact q1,by exact q3,by exact q5,by exact q7,(by rfl),by exact q15,by exact q16,by exact q17,by simp;omega,grow G3 _ (by omega) hkK,(Ext.refl.app).cells hb7,hI _ _ _ _ _ hI3 Chg.refl.app fun b hb=>.inl hb⟩ (by omega)
theorem counted_ok [OB] {lim:Nat} {vn:List Value} {to dl:Int} {H:zH} {Q:Value→zH→Prop} (hQ:Q (.func (.func 74) #[] #[.pointer (some ⟨H.length+2,0,none⟩),.pointer (some ⟨H.length,0,none⟩),.pointer (some ⟨H.length+1,0,none⟩)]) (H++[.cells false vn,.cells false [.int .i64 to],.cells false [.int .i64 dl]])) :
  za0 E false lim 45 [.agg vn.toArray,.int .i64 to,.int .i64 dl] H Q:=by
 refine zbq (by decide) e45 rfl ?_
 rw [b45,c45]
 simp only [n45,r45,SB,seval,zCa,aOp,zB,aUn,reduceCtorEq,zFr,place,zTu,zRe]
 exact hQ
end Go.Proofs.YtohnaffmcjbpoaaGreat.Fn

namespace Go.Proofs.YtohnaffmcjbpoaaGreat.Fn
open Go.AM Go.AM.Sym
section
variable {κ ν:Type} [DecidableEq κ]
def getK (k:κ):List (κ×ν)→Option ν
 | []=>none
 | (k',v)::l=>if k'=k then some v else getK k l
def putK (k:κ) (v:ν):List (κ×ν)→List (κ×ν)
 | []=>[(k,v)]
 | (k',v')::l=>if k'=k then (k',v)::l else (k',v')::putK k v l
def fk (k:κ):List (κ×ν)→Nat→Option (Nat×ν)
 | [],_=>none
 | (k',v)::l,i=>if k'=k then some (i,v) else fk k l (i+1)
theorem fk_get (k:κ):∀(l:List (κ×ν)) (i:Nat),(fk k l i).map (·.2)=getK k l
 | [],_=>rfl
 | (k',v)::l,i=>by
   unfold fk getK
   by_cases h:k'=k
   ·rw [if_pos h,if_pos h];rfl
   ·rw [if_neg h,if_neg h];exact fk_get k l (i+1)
theorem fk_some {k:κ} {v v':ν}:∀{l:List (κ×ν)} {i j:Nat},fk k l i=some (j,v)→i≤j∧j-i<l.length∧l.set (j-i) (k,v')=putK k v' l
 | [],_,_,h=>by cases h
 | (k2,v2)::l,i,j,h=>by
   unfold fk at h
   unfold putK
   by_cases h2:k2=k
   ·rw [if_pos h2] at h
    cases h
    rw [if_pos h2,Nat.sub_self,h2]
    exact ⟨Nat.le_refl _,by simp,rfl⟩
   ·rw [if_neg h2] at h
    obtain ⟨i1,i2,i3⟩:=fk_some (v':=v') h
    rw [if_neg h2]
    have e:j-i=(j-(i+1))+1:=by omega
    rw [e,List.set_cons_succ,i3]
    exact ⟨by omega,by simp only [List.length_cons];omega,rfl⟩
theorem fk_none {k:κ} {v':ν}:∀{l:List (κ×ν)} {i:Nat},fk k l i=none→l++[(k,v')]=putK k v' l
 | [],_,_=>rfl
 | (k2,v2)::l,i,h=>by
   unfold fk at h
   unfold putK
   by_cases h2:k2=k
   ·rw [if_pos h2] at h;cases h
   ·rw [if_neg h2] at h
    rw [if_neg h2,←fk_none h,List.cons_append]
theorem getK_put {k k':κ} {v:ν}:∀{l:List (κ×ν)},getK k' (putK k v l)=if k'=k then some v else getK k' l
 | []=>by
   unfold putK getK
   by_cases h:k'=k
   ·rw [if_pos h.symm,if_pos h]
   ·rw [if_neg fun q=>h q.symm,if_neg h];rfl
 | (k2,v2)::l=>by
   unfold putK
   by_cases h2:k2=k
   ·rw [if_pos h2]
    subst h2
    by_cases h:k'=k2
    ·rw [if_pos h];unfold getK;rw [if_pos h.symm]
    ·rw [if_neg h];unfold getK;rw [if_neg fun q=>h q.symm,if_neg fun q=>h q.symm]
   ·rw [if_neg h2]
    by_cases h:k2=k'
    ·have:¬k'=k:=fun q=>h2 (h.trans q)
     rw [if_neg this];unfold getK;rw [if_pos h,if_pos h]
    ·unfold getK;rw [if_neg h,if_neg h];exact getK_put
def encM (kv:κ→Value) (vv:ν→Value) (es:List (κ×ν)):List (Value×Value):=es.map fun x=>(kv x.1,vv x.2)
def KeyEq (kv:κ→Value):Prop:=∀a b,keyEq (kv a) (kv b)=some (decide (a=b))
variable {kv:κ→Value} {vv:ν→Value}
theorem zbl (hk:KeyEq kv) (k:κ):∀(es:List (κ×ν)) (i:Nat),findKey (kv k) (encM kv vv es) i=some ((fk k es i).map fun x=>(x.1,vv x.2))
 | [],_=>rfl
 | (k',v)::l,i=>by
   unfold encM
   rw [List.map_cons]
   unfold findKey fk
   rw [hk]
   by_cases h:k'=k
   ·rw [if_pos h,decide_eq_true h.symm];rfl
   ·rw [if_neg h,decide_eq_false fun q=>h q.symm]
    exact zbl hk k l (i+1)
end
def kM (k:Int×Int):Value:=.agg #[.int .i64 k.1,.int .i64 k.2]
def vI (n:Int):Value:=.int .i64 n
theorem kM_eq:KeyEq kM:=fun a b=>by
 obtain ⟨a1,a2⟩:=a;obtain ⟨b1,b2⟩:=b
 simp only [kM,keyEq,intsEq,if_true,Option.map_some,Bool.and_true,Prod.mk.injEq,Bool.decide_and]
 rfl
theorem kM_ok {k:Int×Int}:zcv (.ints [.i64,.i64]) (kM k)=true:=by simp [kM,zcv,zbm]
end Go.Proofs.YtohnaffmcjbpoaaGreat.Fn

namespace Go.Proofs.YtohnaffmcjbpoaaGreat.Fn
open Go.AM Go.AM.Sym Go.Net Go.Flow
def addP (PL:List (Int×Int)) (p:Int×Int) (w:Bool):List (Int×Int):=if w=true∧p∉PL then PL++[p] else PL
def esZ (PL:List (Int×Int)):List ((Int×Int)×Int):=PL.map fun p=>(p,0)
theorem esZ_get {p:Int×Int}:∀{PL:List (Int×Int)},getK p (esZ PL)=if p∈PL then some 0 else none
 | []=>rfl
 | a::PL=>by
   have ih:=esZ_get (p:=p) (PL:=PL)
   unfold esZ at ih⊢
   rw [List.map_cons]
   unfold getK
   by_cases h:a=p
   ·rw [if_pos h,if_pos (by rw [h];exact List.mem_cons_self)]
   ·rw [if_neg h,ih]
    by_cases h2:p∈PL
    ·rw [if_pos h2,if_pos (List.mem_cons_of_mem _ h2)]
    ·rw [if_neg h2,if_neg (by rw [List.mem_cons,not_or];exact ⟨fun e=>h e.symm,h2⟩)]
theorem esZ_fk {p:Int×Int} {PL:List (Int×Int)} (h:p∉PL) (i:Nat):fk p (esZ PL) i=none:=by
 have:=fk_get p (esZ PL) i
 rw [esZ_get,if_neg h] at this
 cases hf:fk p (esZ PL) i with
 | none=>rfl
 | some x=>rw [hf] at this;cases this
theorem esZ_fk_some {p:Int×Int} {PL:List (Int×Int)} (h:p∈PL) (i:Nat):∃j,fk p (esZ PL) i=some (j,0):=by
 have:=fk_get p (esZ PL) i
 rw [esZ_get,if_pos h] at this
 cases hf:fk p (esZ PL) i with
 | none=>rw [hf] at this;cases this
 | some x=>
   obtain ⟨j,v⟩:=x
   rw [hf] at this
   cases this
   exact ⟨j,rfl⟩
structure PS (A M:Nat) (X:List Nat) (G:zH) (pp:Option Addr) (cp:Nat) (vs:List Value) (PL:List (Int×Int)):Prop where
 hdr:zG G A=.cells false (.slice pp PL.length cp::.map (some M)::vs)
 own:Own (A+1) G enc2 2 pp cp PL
 mp:zG G M=.map (encM kM vI (esZ PL))
 ma:M<A
 nd:PL.Nodup
 sx:∀b∈X,b<G.length∧b≠A∧b≠M∧b∉opB pp
theorem add_ok [OB] {lim A M:Nat} {X:List Nat} {G:zH} {pp:Option Addr} {cp:Nat} {vs:List Value} {PL:List (Int×Int)} {p:Int×Int} {w:Bool} {Q:Value→zH→Prop} (h:PS A M X G pp cp vs PL) (hlm:lim≤M) (hl:PL.length<2 ^ 29) (hv:vs.length=6)
  (hQ:∀G' pp' cp',PS A M X G' pp' cp' vs (addP PL p w)→(∀b∈X,zG G' b=zG G b)→G.length≤G'.length→Q (.tuple #[]) G') :
  za0 E false lim 59 [.pointer (some ⟨A,0,none⟩),.agg #[.int .i64 p.1,.int .i64 p.2],.bool w] G Q:=by
 refine zbq (by decide) e59 rfl ?_
 rw [b59,c59]
 have hma:=h.ma
 have bAX:=fun X=>(Ext.refl.app (X:=X)).cells h.hdr
 have hMl:M<G.length:=by
  rcases Nat.lt_or_ge M G.length with h1 | h1
  ·exact h1
  ·have:=h.mp;unfold zG at this;rw [List.getD_eq_getElem?_getD,List.getElem?_eq_none h1] at this;cases this
 have bMX:∀X,zG (G++X) M=.map (encM kM vI (esZ PL)):=fun X=>by rw [zHo hMl];exact h.mp
 have hfk:findKey (.agg #[.int .i64 p.1,.int .i64 p.2]) (encM kM vI (esZ PL)) 0=some ((fk p (esZ PL) 0).map fun x=>(x.1,vI x.2)):=zbl (vv:=vI) kM_eq p (esZ PL) 0
 have hko:zcv (.ints [.i64,.i64]) (.agg #[.int .i64 p.1,.int .i64 p.2])=true:=kM_ok (k:=p)
 have hpa:(PL.length:Int)=PL.length:=rfl
 by_cases hin:p∈PL
 ·obtain ⟨j,hj⟩:=esZ_fk_some hin 0
  rw [hj] at hfk
  simp only [Option.map_some,vI] at hfk
  have ea:addP PL p w=PL:=if_neg fun hh=>hh.2 hin
  have hPS:∀Z,PS A M X (G++Z) pp cp vs PL:=fun Z=>⟨bAX Z,h.own.app Z,bMX Z,hma,h.nd,fun b hb=>⟨by have:=(h.sx b hb).1;simp;omega,(h.sx b hb).2⟩⟩
  cases w with
  | true=>
    simp only [n59,r59,bAX,bMX,hfk,hko,SB,seval,zCa,aOp,zB,aUn,reduceCtorEq,zFr,place,zTu,zRe]
    exact hQ _ pp cp (by rw [ea];exact hPS _) (fun b hb=>zHo (h.sx b hb).1) (by simp)
  | false=>
    simp only [n59,r59,bAX,bMX,hfk,hko,SB,seval,zCa,aOp,zB,aUn,reduceCtorEq,zFr,place,zTu,zRe]
    exact hQ _ pp cp (by rw [ea];exact hPS _) (fun b hb=>zHo (h.sx b hb).1) (by simp)
 rw [esZ_fk hin 0] at hfk
 simp only [Option.map_none] at hfk
 cases w with
 | false=>
   have ea:addP PL p false=PL:=if_neg fun hh=>by cases hh.1
   simp only [n59,r59,bAX,bMX,hfk,hko,SB,seval,zCa,aOp,zB,aUn,reduceCtorEq,zFr,place,zTu,zRe]
   exact hQ _ pp cp (by rw [ea];exact ⟨bAX _,h.own.app _,bMX _,hma,h.nd,fun b hb=>⟨by have:=(h.sx b hb).1;simp;omega,(h.sx b hb).2⟩⟩) (fun b hb=>zHo (h.sx b hb).1) (by simp)
 | true=>
   have ea:addP PL p true=PL++[p]:=if_pos ⟨rfl,hin⟩
   obtain ⟨G2,e2,k2,m2⟩:=za4 hMl (.map (encM kM vI (esZ PL)++[(.agg #[.int .i64 p.1,.int .i64 p.2],.int .i64 0)]))
   have hAl:=zHa h.hdr
   have el:=m2.len
   have bA2:=(m2.other A (by omega)).trans h.hdr
   have bA2X:=fun X=>(Ext.refl.app (X:=X)).cells bA2
   have hO2:=(h.own.mut m2 fun a ha e=>by have:=(h.own.block ha).1;omega).app [.cells false [.int .i64 p.1,.int .i64 p.2]]
   obtain ⟨G4,p',c',e4,O4,C4,K4,hl4,hp4,_⟩:=Own.moreD hO2 (lim':=lim) (d:=G2.length+2) (bytes:=16) (by omega) z2l (by decide) [p] (by simp;unfold za3;omega) (by simp;omega) (by simp;omega) [.cells false [.int .i64 p.1,.int .i64 p.2],.dead] (by simp) (by simp) (x:=.slice (some ⟨G2.length+1,0,none⟩) 1 1) (str:=false)
    (zbk (m:=[p]) (Sl.row (ro:=false) z2l (by rw [List.append_assoc,zHw];rfl))) rfl
   simp only [List.append_assoc,List.cons_append,List.nil_append,List.length_append,List.length_cons,List.length_nil,Nat.zero_add,List.append_nil] at e4 O4 C4 K4 hl4
   have hp:=hp4 (by simp)
   subst hp
   have e4':zAa lim (some (G2.length+2)) 2 16 false (.slice pp PL.length cp) (.slice (some ⟨G2.length+1,0,none⟩) 1 1) (G2++[.cells false [.int .i64 p.1,.int .i64 p.2],.cells false [.int .i64 p.1,.int .i64 p.2],.dead])=some (.slice (some ⟨G2.length+2,0,none⟩) (PL.length+1) c',G4++[]):=by rw [List.append_nil];exact e4
   have kk:∀b,b<G2.length→(∀a,pp=some a→b≠a.block)→zG G4 b=zG G2 b:=fun b hb hne=>(K4 b (by omega) hne).trans (zHo hb)
   have kA4:=(kk A (by omega) fun a ha=>by have:=(h.own.block ha).1;omega).trans bA2
   have kA4X:=fun X=>(Ext.refl.app (X:=X)).cells kA4
   obtain ⟨G5,e5,k5,m5⟩:=za4 (zHa kA4) (.cells false (.slice (some ⟨G2.length+2,0,none⟩) (PL.length+1) c'::.map (some M)::vs))
   have bpX:∀X,zG (G2++Blk.cells false [.int .i64 p.1,.int .i64 p.2]::X) G.length=.cells false [.int .i64 p.1,.int .i64 p.2]:=fun X=>by rw [←el,zHn];rfl
   simp only [n59,r59,bAX,bMX,hfk,hko,hlm,e2,bA2X,bpX,e4',kA4X,show lim≤A by omega,e5,SB,seval,zCa,aOp,zB,aUn,reduceCtorEq,zFr,place,zTu,zRe]
   have ez:esZ (PL++[p])=esZ PL++[(p,0)]:=by unfold esZ;rw [List.map_append];rfl
   have hM5:zG G5 M=.map (encM kM vI (esZ (PL++[p]))):=by
    rw [m5.other M (by omega),kk M (by omega) fun a ha=>by have:=(h.own.block ha).1;omega,k2,ez]
    unfold encM
    rw [List.map_append];rfl
   have hPS:PS A M X (G5++[]) (some ⟨G2.length+2,0,none⟩) c' vs (PL++[p]):=by
    refine ⟨by rw [List.length_append];exact (Ext.refl.app).cells k5,(O4.mut m5 fun a ha e=>by cases ha;simp only at e;omega).app _,by rw [zHo (by have:=m5.len;omega)];exact hM5,hma, ?_,fun b hb=>?_⟩
    ·rw [List.nodup_append]
     exact ⟨h.nd,by simp,fun a ha b hb e=>by rw [List.mem_singleton] at hb;subst hb;subst e;exact hin ha⟩
    ·obtain ⟨x1,x2,x3,x4⟩:=h.sx b hb
     exact ⟨by have:=m5.len;simp;omega,x2,x3,fun hm=>by simp only [opB,List.mem_singleton] at hm;omega⟩
   refine hQ _ (some ⟨G2.length+2,0,none⟩) c' (by rw [ea];exact hPS) (fun b hb=>?_) (by have:=m5.len;simp;omega)
   obtain ⟨x1,x2,x3,x4⟩:=h.sx b hb
   rw [zHo (by have:=m5.len;omega),m5.other b x2,kk b (by omega) fun a ha e=>x4 (zOm.2 ⟨a,ha,e.symm⟩),m2.other b x3]
end Go.Proofs.YtohnaffmcjbpoaaGreat.Fn

namespace Go.Proofs.YtohnaffmcjbpoaaGreat.Fn
open Go.AM Go.AM.Sym Go.Net
theorem isNaN_ok [OB] {mp:Bool} {lim:Nat} {n:Int} {H:zH} {Q:Value→zH→Prop}:za0 E mp lim 97 [.int .i64 n] H Q=Q (.bool false) H:=by
 refine pc (by decide) e97 rfl rfl ?_
 rw [b97,c97]
 simp only [n97,r97,SB,seval,zCa,aOp,zB,aUn,reduceCtorEq,zFr,place,zTu,zRe]
def cmpI (a b:Int):Int:=if a<b then -1 else if b<a then 1 else 0
theorem cmp_ok [OB] {mp:Bool} {lim:Nat} {a b:Int} {H:zH} {Q:Value→zH→Prop}:za0 E mp lim 68 [.int .i64 a,.int .i64 b] H Q=Q (.int .i64 (cmpI a b)) H:=by
 refine pc (by decide) e68 rfl rfl ?_
 rw [b68,c68]
 simp only [n68,r68,isNaN_ok,SB,seval,zCa,aOp,zB,aUn,reduceCtorEq,zFr,place,zTu,zRe]
 repeat' ((first | refine wantK_dec (fun hw=>?_) (fun hw=>?_) | refine condK_dec (fun hw=>?_) (fun hw=>?_) | refine wantK_any (fun hw=>?_) (fun hw=>?_) | refine condK_any (fun hw=>?_) (fun hw=>?_))<;>(try simp only [hw,n68,r68,isNaN_ok,SB,Nat.reduceLT,zCa,aOp,Nat.reduceEqDiff,zB,aUn,reduceCtorEq,zFr,place,zTu,Nat.reduceAdd,Nat.reduceLeDiff,zRe,Int.reduceEq,Int.reduceLT,Int.reduceLE]))
 all_goals simp [cmpI, *]
def orL:List Int→Int
 | []=>0
 | x::l=>if x≠0 then x else orL l
theorem orL_drop {l:List Int} {i:Nat} (h:i<l.length):orL (l.drop i)=if gt l i≠0 then gt l i else orL (l.drop (i+1)):=by
 rw [List.drop_eq_getElem_cons h,orL,zGl h]
theorem or_ok [OB] (mp:Bool) (lim:Nat) {p:Option Addr} {l:List Int} {cap:Nat} {H:zH} {Q:Value→zH→Prop} (hs:Sl H encI 1 p l) (hn:l.length<2 ^ 62) :
  za0 E mp lim 67 [.slice p l.length cap] H Q=Q (.int .i64 (orL l)) H:=by
 refine pc (by decide) e67 rfl rfl ?_
 rw [b67,c67]
 simp only [n67,r67,SB,seval,zCa,aOp,zB,aUn,reduceCtorEq,zFr,place,zTu,zRe]
 refine zRr (fun i=>l.length-i) (fun i fr G=>i≤l.length∧fr 6=.slice p l.length cap∧fr 7=.int .i64 (l.length:Int)∧fr 8=.int .i64 (i:Int)∧fr 3=.int .i64 0∧Sl G encI 1 p l∧
  orL l=orL (l.drop i)) 0 ⟨Nat.zero_le _,(by rfl),(by rfl),by rfl,(by rfl),hs.app _,rfl⟩ ?_
 intro i fr G ⟨hi,h6,h7,h8,h3,hg,ha⟩ hN
 rw [zRc l67_1.eq_1]
 refine zRp ?_
 by_cases hlt:i<l.length
 ·have hld:=(hg.app []).loadCell0 (fun _=>rfl) hlt (by decide)
  have hidx:=fun c (k:IntKind) (H1:zH)=>hg.idx (c:=c) (k:=k) (H1:=H1) hlt
  have hw1:IntKind.i64.wrap ((i:Int)+1)=((i+1:Nat):Int):=zWn (by omega)
  rw [orL_drop hlt] at ha
  simp only [n67,r67,h6,h7,h8,h3,hlt,hidx,hld,encI,hw1,SB,seval,zCa,aOp,zB,aUn,reduceCtorEq,zFr,place,zTu,zRe]
  repeat' ((first | refine wantK_dec (fun hw=>?_) (fun hw=>?_) | refine condK_dec (fun hw=>?_) (fun hw=>?_) | refine wantK_any (fun hw=>?_) (fun hw=>?_) | refine condK_any (fun hw=>?_) (fun hw=>?_))<;>(try simp only [hw,n67,r67,h6,h7,h8,h3,hlt,hidx,hld,encI,hw1,SB,Nat.reduceLT,zCa,aOp,Nat.reduceEqDiff,zB,aUn,reduceCtorEq,zFr,place,zTu,Nat.reduceAdd,Nat.reduceLeDiff,zRe,Int.reduceEq,Int.reduceLT,Int.reduceLE]))
  ·rw [ha,if_pos hw]
  ·refine hN (i+1) _ _ ⟨by omega,by exact h6,by exact h7,(by rfl),by exact h3,hg.app _, ?_⟩ (by omega)
   rw [ha,if_neg hw]
 ·obtain rfl:i=l.length:=by omega
  rw [List.drop_length,orL] at ha
  simp only [n67,r67,h6,h7,h8,h3,hlt,ha,SB,seval,zCa,aOp,zB,aUn,reduceCtorEq,zFr,place,zTu,zRe]
def intsOf:List Value→List Int
 | .int _ a::r=>a::intsOf r
 | _=>[]
def okInts:List Value→Bool
 | .int .i64 _::r=>okInts r
 | []=>true
 | _=>false
theorem intsOf_cons {j:IntKind} {a:Int} {r:List Value}:intsOf (.int j a::r)=a::intsOf r:=rfl
theorem intsOf_nil:intsOf []=[]:=rfl
theorem okInts_cons {a:Int} {r:List Value}:okInts (.int .i64 a::r)=okInts r:=id rfl
theorem okInts_nil:okInts []=true:=id rfl
theorem intsOf_ok:∀c:List Value,okInts c=true→c=(intsOf c).flatMap encI
 | [],_=>rfl
 | .int .i64 a::r,h=>by
   rw [intsOf_cons,List.flatMap_cons,←intsOf_ok r h];rfl
theorem or_lit [OB] {mp:Bool} {lim b n cap:Nat} {H:zH} {Q:Value→zH→Prop} (h1:isCells (zG H b)=true) (h2:okInts (cellsOf (zG H b))=true) (h3:(intsOf (cellsOf (zG H b))).length=n) (h4:n<2 ^ 62) :
  za0 E mp lim 67 [.slice (some ⟨b,0,none⟩) n cap] H Q=Q (.int .i64 (orL (intsOf (cellsOf (zG H b))))) H:=by
 subst h3
 rw [or_ok mp lim (Sl.lit (fun _=>rfl) h1 (intsOf_ok _ h2)) h4]
end Go.Proofs.YtohnaffmcjbpoaaGreat.Fn

namespace Go.AM.Srt
open Go.AM Go.AM.Sym Go.Sort
variable {E:Env} {iz:Ids} [DT E E] [SortAt E iz] {α:Type} [Inhabited α] {enc:α→List Value} [EncOk enc iz]
def ltC {α:Type} (c:α→α→Int) (x y:α):Bool:=decide (c x y<0)
theorem ins_ok {G X:zH} {B lim cap n:Nat} {p:Option Addr} {c:α→α→Int} {cl:FuncId} {cs:List Value} {Q:Value→zH→Prop} (hp:p=some ⟨B,0,none⟩) (hB:B<G.length) (hl:lim≤B) (hn2:n<2 ^ 61) (hc:∀(mp:Bool) (lim:Nat) (x y:α) (H:zH) (Q:Value→zH→Prop),za0 E mp lim cl (.agg (enc x).toArray::.agg (enc y).toArray::cs) H Q=Q (.int .i64 (c x y)) H) {d:Array α} {a b:Nat} (hd:d.size=n) (hb:b≤n) (hab:a≤b) :
  za0 E false lim iz.INS [.slice p n cap,.int .i64 (a:Int),.int .i64 (b:Int),.func (.func cl) #[] cs.toArray] (DH enc G B d++X) Q=Q (.tuple #[]) (DH enc G B (insertionSort (ltC c) d a b)++X):=by
 refine runs (SortAt.INS (E:=E) (z:=iz)) ?_
 rw [bINS,cINS]
 have hw0:IntKind.i64.wrap ((a:Int)+1)=((a+1:Nat):Int):=zWn (by omega)
 simp only [nINS,rINS,hw0,SB,seval,zCa,aOp,zB,aUn,reduceCtorEq,zFr,place,zTu,zRe]
 refine zRr (S:=Nat×Array α) (fun s=>b+1-s.1) (fun s fr H=>a≤s.1∧s.1≤b+1∧fr 0=.slice p n cap∧fr 1=.int .i64 (a:Int)∧fr 2=.int .i64 (b:Int)∧fr 3=.func (.func cl) #[] cs.toArray∧fr 8=.int .i64 (s.1:Int)∧
  H=DH enc G B s.2++X∧s.2.size=n∧insertionSort (ltC c) d a b=insOuter (ltC c) a b s.1 s.2) (a+1,d) ⟨by simp,by simp;omega,(by rfl),(by rfl),(by rfl),(by rfl),(by rfl),rfl,hd,rfl⟩ ?_
 rintro ⟨i,d1⟩ fr H ⟨h1,h2,g0,g1,g2,g3,g8,rfl,hd1,he⟩ hN
 simp only at h1 h2 g8 hd1 he
 rw [zRc (lINS_2.eq_1 iz)]
 unfold insOuter at he
 by_cases hib:i<b
 ·rw [if_pos hib] at he
  simp only [nINS,rINS,g0,g1,g2,g3,g8,hib,SB,seval,zCa,aOp,zB,aUn,reduceCtorEq,zFr,place,zTu,zRe]
  refine zRr (S:=Nat×Array α) (fun s=>s.1) (fun s fr H=>s.1≤i∧fr 0=.slice p n cap∧fr 1=.int .i64 (a:Int)∧fr 2=.int .i64 (b:Int)∧fr 3=.func (.func cl) #[] cs.toArray∧fr 8=.int .i64 (i:Int)∧fr 9=.int .i64 (s.1:Int)∧
   H=DH enc G B s.2++X∧s.2.size=n∧insInner (ltC c) a i d1=insInner (ltC c) a s.1 s.2) (i,d1) ⟨Nat.le_refl _,by exact g0,by exact g1,by exact g2,by exact g3,by exact g8,(by rfl),by simp,hd1,rfl⟩ ?_
  rintro ⟨j,d2⟩ fr2 H2 ⟨k1,q0,q1,q2,q3,q8,q9,rfl,hd2,hi⟩ hM
  simp only at k1 q9 hd2 hi
  rw [zRc (lINS_1.eq_1 iz)]
  have hwi:IntKind.i64.wrap ((i:Int)+1)=((i+1:Nat):Int):=zWn (by omega)
  by_cases haj:a<j
  ·obtain ⟨j,rfl⟩:∃j',j=j'+1:=⟨j-1,by omega⟩
   have hwj:IntKind.i64.wrap (((j+1:Nat):Int)-1)=(j:Int):=zab (n:=j+1) (by omega) (by omega)
   have ld:=fun (X:zH) (d:Array α) (hd:d.size=n)=>DH_ld (X:=X) (d:=d) (i:=j) hp hB (EncOk.len (enc:=enc) (z:=iz)) (by omega)
   have ld1:=fun (X:zH) (d:Array α) (hd:d.size=n)=>DH_ld (X:=X) (d:=d) (i:=j+1) hp hB (EncOk.len (enc:=enc) (z:=iz)) (by omega)
   have st:=fun (X:zH) (d:Array α) (hd:d.size=n) (y:α)=>DH_st (X:=X) (d:=d) (i:=j) (y:=y) hp hB hl (EncOk.len (enc:=enc) (z:=iz)) (by omega)
   have st1:=fun (X:zH) (d:Array α) (hd:d.size=n) (y:α)=>DH_st (X:=X) (d:=d) (i:=j+1) (y:=y) hp hB hl (EncOk.len (enc:=enc) (z:=iz)) (by omega)
   have ix:=fun c (k:IntKind) (H:zH)=>DH_idx (e:=iz.e) (i:=j) (n:=n) (c:=c) (k:=k) (H:=H) hp (by omega)
   have ix1:=fun c (k:IntKind) (H:zH)=>DH_idx (e:=iz.e) (i:=j+1) (n:=n) (c:=c) (k:=k) (H:=H) hp (by omega)
   rw [insInner] at hi
   by_cases hlt:ltC c d2[j+1]! d2[j]! = true
   ·have hlt':c d2[j+1]! d2[j]!<0:=by simpa [ltC] using hlt
    simp only [nINS,rINS,q0,q1,q2,q3,q8,q9,haj,hwj,ld,ld1,st,st1,ix,ix1,hd2,hc,hlt',Array.size_setIfInBounds,(EncOk.len (enc:=enc) (z:=iz)),SB,seval,zCa,aOp,zB,aUn,reduceCtorEq,zFr,place,zTu,zRe]
    refine hM (j,swp d2 (j+1) j) _ _ ⟨by simp only;omega,by exact q0,by exact q1,by exact q2,by exact q3,by exact q8,(by rfl),by simp [swp],by simp [swp,hd2], ?_⟩ (by simp only;omega)
    rw [hi];simp [haj,hlt]
   ·have hlt':¬c d2[j+1]! d2[j]!<0:=by simpa [ltC] using hlt
    simp only [nINS,rINS,q0,q1,q2,q3,q8,q9,haj,hwj,ld,ld1,st,st1,ix,ix1,hd2,hc,hlt',hwi,SB,seval,zCa,aOp,zB,aUn,reduceCtorEq,zFr,place,zTu,zRe]
    refine hN (i+1,d2) _ _ ⟨by simp only;omega,by simp only;omega,by exact q0,by exact q1,by exact q2,by exact q3,(by rfl),by simp,hd2, ?_⟩ (by simp only;omega)
    rw [he,hi];simp [haj,hlt]
  ·have haj':¬(a:Int)<(j:Int):=by omega
   simp only [nINS,rINS,q0,q1,q2,q3,q8,q9,haj,hwi,SB,seval,zCa,aOp,zB,aUn,reduceCtorEq,zFr,place,zTu,zRe]
   refine hN (i+1,d2) _ _ ⟨by simp only;omega,by simp only;omega,by exact q0,by exact q1,by exact q2,by exact q3,(by rfl),by simp,hd2, ?_⟩ (by simp only;omega)
   rw [he,hi]
   cases j with
   | zero=>rfl
   | succ j=>rw [insInner];simp [show ¬j+1 > a by omega]
 ·rw [if_neg hib] at he
  simp only [nINS,rINS,g0,g1,g2,g3,g8,hib,he,SB,seval,zCa,aOp,zB,aUn,reduceCtorEq,zFr,place,zTu,zRe]
theorem rev_ok {G X:zH} {B lim cap n:Nat} {p:Option Addr} {c:α→α→Int} {cl:FuncId} {cs:List Value} {Q:Value→zH→Prop} (hp:p=some ⟨B,0,none⟩) (hB:B<G.length) (hl:lim≤B) (hn2:n<2 ^ 61) (hc:∀(mp:Bool) (lim:Nat) (x y:α) (H:zH) (Q:Value→zH→Prop),za0 E mp lim cl (.agg (enc x).toArray::.agg (enc y).toArray::cs) H Q=Q (.int .i64 (c x y)) H) {d:Array α} {a b:Nat} (hd:d.size=n) (hb:b≤n) (hab:a<b) :
  za0 E false lim iz.REV [.slice p n cap,.int .i64 (a:Int),.int .i64 (b:Int),.func (.func cl) #[] cs.toArray] (DH enc G B d++X) Q=Q (.tuple #[]) (DH enc G B (reverseRange d a b)++X):=by
 refine runs (SortAt.REV (E:=E) (z:=iz)) ?_
 rw [bREV,cREV]
 have hw0:IntKind.i64.wrap ((b:Int)-1)=((b-1:Nat):Int):=zab (by omega) (by omega)
 simp only [nREV,rREV,hw0,SB,seval,zCa,aOp,zB,aUn,reduceCtorEq,zFr,place,zTu,zRe]
 have ld:=fun (i:Nat) (X:zH) (d:Array α) (hd:d.size=n) (hi:i<n)=>DH_ld (X:=X) (d:=d) (i:=i) hp hB (EncOk.len (enc:=enc) (z:=iz)) (by omega);have st:=fun (i:Nat) (X:zH) (d:Array α) (hd:d.size=n) (hi:i<n) (y:α)=>DH_st (X:=X) (d:=d) (i:=i) (y:=y) hp hB hl (EncOk.len (enc:=enc) (z:=iz)) (by omega);have ix:=fun (i:Nat) (hi:i<n) c (k:IntKind) (H:zH)=>DH_idx (e:=iz.e) (i:=i) (n:=n) (c:=c) (k:=k) (H:=H) hp hi
 refine zRr (S:=(Nat×Nat)×Array α) (fun s=>s.1.2+1-s.1.1) (fun s fr H=>s.1.1≤b∧s.1.2<b∧fr 0=.slice p n cap∧fr 8=.int .i64 (s.1.1:Int)∧fr 9=.int .i64 (s.1.2:Int)∧
  H=DH enc G B s.2++X∧s.2.size=n∧reverseRange d a b=reverseLoop s.1.1 s.1.2 s.2) ((a,b-1),d) ⟨by simp;omega,by simp;omega,(by rfl),(by rfl),(by rfl),rfl,hd,rfl⟩ ?_
 rintro ⟨⟨i,j⟩,d1⟩ fr H ⟨h1,h2,g0,g8,g9,rfl,hd1,he⟩ hN
 simp only at h1 h2 g8 g9 hd1 he
 rw [zRc (lREV_1.eq_1 iz)]
 unfold reverseLoop at he
 by_cases hij:i<j
 ·rw [if_pos hij] at he
  have hw1:IntKind.i64.wrap ((i:Int)+1)=((i+1:Nat):Int):=zWn (by omega)
  have hw2:IntKind.i64.wrap ((j:Int)-1)=((j-1:Nat):Int):=zab (by omega) (by omega)
  have hi:i<n:=by omega
  have hj:j<n:=by omega
  simp only [nREV,rREV,g0,g8,g9,hij,hw1,hw2,ld,st,ix,List.append_nil,Array.size_setIfInBounds,(EncOk.len (enc:=enc) (z:=iz)),hd1,hi,hj,SB,seval,zCa,aOp,zB,aUn,reduceCtorEq,zFr,place,zTu,zRe]
  refine hN ((i+1,j-1),swp d1 i j) _ _ ⟨by simp only;omega,by simp only;omega,by exact g0,(by rfl),(by rfl),by simp [swp],by simp [swp,hd1],he⟩ (by simp only;omega)
 ·rw [if_neg hij] at he
  simp only [nREV,rREV,g0,g8,g9,hij,he,SB,seval,zCa,aOp,zB,aUn,reduceCtorEq,zFr,place,zTu,zRe]
theorem sift_ok {G X:zH} {B lim cap n:Nat} {p:Option Addr} {c:α→α→Int} {cl:FuncId} {cs:List Value} {Q:Value→zH→Prop} (hp:p=some ⟨B,0,none⟩) (hB:B<G.length) (hl:lim≤B) (hn2:n<2 ^ 61) (hc:∀(mp:Bool) (lim:Nat) (x y:α) (H:zH) (Q:Value→zH→Prop),za0 E mp lim cl (.agg (enc x).toArray::.agg (enc y).toArray::cs) H Q=Q (.int .i64 (c x y)) H) {d:Array α} {lo hi first:Nat} (hd:d.size=n) (hb:first+hi≤n) (hlo:lo≤hi) :
  za0 E false lim iz.SIFT [.slice p n cap,.int .i64 (lo:Int),.int .i64 (hi:Int),.int .i64 (first:Int),.func (.func cl) #[] cs.toArray] (DH enc G B d++X) Q=Q (.tuple #[]) (DH enc G B (siftDown (ltC c) hi first lo d)++X):=by
 refine runs (SortAt.SIFT (E:=E) (z:=iz)) ?_
 rw [bSIFT,cSIFT]
 generalize hT:siftDown (ltC c) hi first lo d=T
 simp only [nSIFT,rSIFT,SB,seval,zCa,aOp,zB,aUn,reduceCtorEq,zFr,place,zTu,zRe]
 have ld:=fun (i:Nat) (X:zH) (d:Array α) (hd:d.size=n) (hi:i<n)=>DH_ld (X:=X) (d:=d) (i:=i) hp hB (EncOk.len (enc:=enc) (z:=iz)) (by omega);have st:=fun (i:Nat) (X:zH) (d:Array α) (hd:d.size=n) (hi:i<n) (y:α)=>DH_st (X:=X) (d:=d) (i:=i) (y:=y) hp hB hl (EncOk.len (enc:=enc) (z:=iz)) (by omega);have ix:=fun (i:Nat) (hi:i<n) c (k:IntKind) (H:zH)=>DH_idx (e:=iz.e) (i:=i) (n:=n) (c:=c) (k:=k) (H:=H) hp hi
 refine zRr (S:=Nat×Array α) (fun s=>hi-s.1) (fun s fr H=>s.1≤hi∧fr 0=.slice p n cap∧fr 2=.int .i64 (hi:Int)∧fr 3=.int .i64 (first:Int)∧fr 4=.func (.func cl) #[] cs.toArray∧fr 10=.int .i64 (s.1:Int)∧
  H=DH enc G B s.2++X∧s.2.size=n∧T=siftDown (ltC c) hi first s.1 s.2) (lo,d) ⟨hlo,(by rfl),(by rfl),(by rfl),(by rfl),(by rfl),rfl,hd,hT.symm⟩ ?_
 rintro ⟨r,d1⟩ fr H ⟨h1,g0,g2,g3,g4,g10,rfl,hd1,he⟩ hN
 simp only at h1 g10 hd1 he
 rw [zRc (lSIFT_1.eq_1 iz)]
 unfold siftDown at he
 have hw1:IntKind.i64.wrap (2*(r:Int))=((2*r:Nat):Int):=by rw [zWi (by omega) (by omega)];omega
 have hw2:IntKind.i64.wrap (((2*r:Nat):Int)+1)=((2*r+1:Nat):Int):=zWn (by omega)
 have hw3:IntKind.i64.wrap (((2*r+1:Nat):Int)+1)=((2*r+2:Nat):Int):=zWn (by omega)
 have hw4:IntKind.i64.wrap ((first:Int)+((2*r+1:Nat):Int))=((first+(2*r+1):Nat):Int):=by rw [zWi (by omega) (by omega)];omega
 have hw5:IntKind.i64.wrap (((first+(2*r+1):Nat):Int)+1)=((first+(2*r+2):Nat):Int):=zWn (by omega)
 have hw6:IntKind.i64.wrap ((first:Int)+((2*r+2:Nat):Int))=((first+(2*r+2):Nat):Int):=by rw [zWi (by omega) (by omega)];omega
 have hw7:IntKind.i64.wrap ((first:Int)+(r:Int))=((first+r:Nat):Int):=by rw [zWi (by omega) (by omega)];omega
 by_cases c1:2*r+1≥hi
 ·rw [dif_pos c1] at he
  have c1':hi≤2*r+1:=c1
  simp only [nSIFT,rSIFT,g0,g2,g3,g4,g10,hw1,hw2,c1',he,SB,seval,zCa,aOp,zB,aUn,reduceCtorEq,zFr,place,zTu,zRe]
 ·rw [dif_neg c1] at he
  have c1':¬hi≤2*r+1:=c1
  have i1:first+(2*r+1)<n:=by omega
  have i2:first+r<n:=by omega
  by_cases c2:2*r+1+1<hi∧c d1[first+(2*r+1)]! d1[first+(2*r+2)]!<0
  ·obtain ⟨c2,c3⟩:=c2
   have i3:first+(2*r+2)<n:=by omega
   have c2':2*r+2<hi:=by omega
   rw [if_pos (by simp only [Bool.and_eq_true,decide_eq_true_eq,ltC];exact ⟨c2,by rw [show first+(2*r+1)+1=first+(2*r+2) by omega];exact c3⟩)] at he
   by_cases c4:c d1[first+r]! d1[first+(2*r+2)]!<0
   ·rw [if_neg (by simp [ltC,c4]),dif_pos c2'] at he
    simp only [nSIFT,rSIFT,g0,g2,g3,g4,g10,hw1,hw2,hw3,hw4,hw5,hw6,hw7,c1',c2',c3,c4,ld,st,ix,List.append_nil,Array.size_setIfInBounds,(EncOk.len (enc:=enc) (z:=iz)),hd1,i1,i2,i3,hc,SB,seval,zCa,aOp,zB,aUn,reduceCtorEq,zFr,place,zTu,zRe]
    refine hN (2*r+2,swp d1 (first+r) (first+(2*r+2))) _ _ ⟨by simp only;omega,by exact g0,by exact g2,by exact g3,by exact g4,(by rfl),by simp [swp],by simp [swp,hd1],he⟩ (by simp only;omega)
   ·rw [if_pos (by simp [ltC,c4])] at he
    simp only [nSIFT,rSIFT,g0,g2,g3,g4,g10,hw1,hw2,hw3,hw4,hw5,hw6,hw7,c1',c2',c3,c4,ld,st,ix,List.append_nil,Array.size_setIfInBounds,(EncOk.len (enc:=enc) (z:=iz)),hd1,i1,i2,i3,hc,he,SB,seval,zCa,aOp,zB,aUn,reduceCtorEq,zFr,place,zTu,zRe]
  ·rw [if_neg (by simp only [Bool.and_eq_true,decide_eq_true_eq,ltC];rw [show first+(2*r+1)+1=first+(2*r+2) by omega];exact c2)] at he
   by_cases c4:c d1[first+r]! d1[first+(2*r+1)]!<0
   ·rw [if_neg (by simp [ltC,c4])] at he
    by_cases c5:2*r+2<hi
    ·have c3:¬c d1[first+(2*r+1)]! d1[first+(2*r+2)]!<0:=fun h=>c2 ⟨by omega,h⟩
     have i3:first+(2*r+2)<n:=by omega
     simp only [nSIFT,rSIFT,g0,g2,g3,g4,g10,hw1,hw2,hw3,hw4,hw5,hw6,hw7,c1',c5,c3,c4,ld,st,ix,List.append_nil,Array.size_setIfInBounds,(EncOk.len (enc:=enc) (z:=iz)),hd1,i1,i2,i3,hc,SB,seval,zCa,aOp,zB,aUn,reduceCtorEq,zFr,place,zTu,zRe]
     refine hN (2*r+1,swp d1 (first+r) (first+(2*r+1))) _ _ ⟨by simp only;omega,by exact g0,by exact g2,by exact g3,by exact g4,(by rfl),by simp [swp],by simp [swp,hd1],he⟩ (by simp only;omega)
    ·simp only [nSIFT,rSIFT,g0,g2,g3,g4,g10,hw1,hw2,hw3,hw4,hw5,hw6,hw7,c1',c5,c4,ld,st,ix,List.append_nil,Array.size_setIfInBounds,(EncOk.len (enc:=enc) (z:=iz)),hd1,i1,i2,hc,SB,seval,zCa,aOp,zB,aUn,reduceCtorEq,zFr,place,zTu,zRe]
     refine hN (2*r+1,swp d1 (first+r) (first+(2*r+1))) _ _ ⟨by simp only;omega,by exact g0,by exact g2,by exact g3,by exact g4,(by rfl),by simp [swp],by simp [swp,hd1],he⟩ (by simp only;omega)
   ·rw [if_pos (by simp [ltC,c4])] at he
    by_cases c5:2*r+2<hi
    ·have c3:¬c d1[first+(2*r+1)]! d1[first+(2*r+2)]!<0:=fun h=>c2 ⟨by omega,h⟩
     have i3:first+(2*r+2)<n:=by omega
     simp only [nSIFT,rSIFT,g0,g2,g3,g4,g10,hw1,hw2,hw3,hw4,hw5,hw6,hw7,c1',c5,c3,c4,ld,st,ix,List.append_nil,Array.size_setIfInBounds,(EncOk.len (enc:=enc) (z:=iz)),hd1,i1,i2,i3,hc,he,SB,seval,zCa,aOp,zB,aUn,reduceCtorEq,zFr,place,zTu,zRe]
    ·simp only [nSIFT,rSIFT,g0,g2,g3,g4,g10,hw1,hw2,hw3,hw4,hw5,hw6,hw7,c1',c5,c4,ld,st,ix,List.append_nil,Array.size_setIfInBounds,(EncOk.len (enc:=enc) (z:=iz)),hd1,i1,i2,hc,he,SB,seval,zCa,aOp,zB,aUn,reduceCtorEq,zFr,place,zTu,zRe]
variable {E:Env} {iz:Ids} [DT E E] [SortAt E iz] {α:Type} [Inhabited α] {enc:α→List Value} [EncOk enc iz]
theorem swp_sz {α:Type} [Inhabited α] {d:Array α} {i j:Nat}:(swp d i j).size=d.size:=by simp [swp]
theorem siftDown_sz {α:Type} [Inhabited α] {lt:α→α→Bool} {hi first:Nat}:∀(m r:Nat) (d:Array α),hi-r≤m→(siftDown lt hi first r d).size=d.size
 | 0,r,d,h=>by
   rw [siftDown,dif_pos (by omega)]
 | m+1,r,d,h=>by
   rw [siftDown]
   split
   ·rfl
   ·split
    ·split
     ·rfl
     ·split
      ·rw [siftDown_sz m _ _ (by omega),swp_sz]
      ·rfl
    ·split
     ·rfl
     ·rw [siftDown_sz m _ _ (by omega),swp_sz]
theorem heap_ok {G X:zH} {B lim cap n:Nat} {p:Option Addr} {c:α→α→Int} {cl:FuncId} {cs:List Value} {Q:Value→zH→Prop} (hp:p=some ⟨B,0,none⟩) (hB:B<G.length) (hl:lim≤B) (hn2:n<2 ^ 61) (hc:∀(mp:Bool) (lim:Nat) (x y:α) (H:zH) (Q:Value→zH→Prop),za0 E mp lim cl (.agg (enc x).toArray::.agg (enc y).toArray::cs) H Q=Q (.int .i64 (c x y)) H) {d:Array α} {a b:Nat} (hd:d.size=n) (hb:b≤n) (hab:a≤b) :
  za0 E false lim iz.HEAP [.slice p n cap,.int .i64 (a:Int),.int .i64 (b:Int),.func (.func cl) #[] cs.toArray] (DH enc G B d++X) Q=Q (.tuple #[]) (DH enc G B (heapSort (ltC c) d a b)++X):=by
 refine runs (SortAt.HEAP (E:=E) (z:=iz)) ?_
 rw [bHEAP,cHEAP]
 obtain ⟨h,rfl⟩:∃h,b=a+h:=⟨b-a,by omega⟩
 have hw0:IntKind.i64.wrap (((a+h:Nat):Int)-(a:Int))=(h:Int):=by rw [zWi (by omega) (by omega)];omega
 have hw1:IntKind.i64.wrap ((h:Int)-1)=(h:Int)-1:=zWi (by omega) (by omega)
 have hw2:IntKind.i64.wrap (((h:Int)-1).tdiv 2)=(((h-1) / 2+1:Nat):Int)-1:=by
  rcases Nat.eq_zero_or_pos h with rfl | h0
  ·decide
  ·rw [Int.tdiv_eq_ediv_of_nonneg (by omega),zWi (by omega) (by omega)];omega
 generalize hT:heapSort (ltC c) d a (a+h)=T
 rw [heapSort,show a+h-a=h by omega] at hT
 have ld:=fun (i:Nat) (X:zH) (d:Array α) (hd:d.size=n) (hi:i<n)=>DH_ld (X:=X) (d:=d) (i:=i) hp hB (EncOk.len (enc:=enc) (z:=iz)) (by omega);have st:=fun (i:Nat) (X:zH) (d:Array α) (hd:d.size=n) (hi:i<n) (y:α)=>DH_st (X:=X) (d:=d) (i:=i) (y:=y) hp hB hl (EncOk.len (enc:=enc) (z:=iz)) (by omega);have ix:=fun (i:Nat) (hi:i<n) c (k:IntKind) (H:zH)=>DH_idx (e:=iz.e) (i:=i) (n:=n) (c:=c) (k:=k) (H:=H) hp hi
 have hsift:=fun (X:zH) (d:Array α) (lo hi:Nat) (hd:d.size=n) (hh:hi≤h) (hlo:lo≤hi) Q=>sift_ok (X:=X) (d:=d) (lo:=lo) (hi:=hi) (first:=a) (cap:=cap) (Q:=Q) hp hB hl hn2 hc hd (by omega) hlo
 simp only [nHEAP,rHEAP,hw0,hw1,hw2,SB,seval,zCa,aOp,zB,aUn,reduceCtorEq,zFr,place,zTu,zRe]
 refine zRr (S:=Nat×Array α) (fun s=>s.1) (fun s fr H=>s.1≤h+1∧(h=0→s.1≤1)∧(0<h→s.1≤h)∧fr 0=.slice p n cap∧fr 3=.func (.func cl) #[] cs.toArray∧fr 8=.int .i64 (a:Int)∧fr 9=.int .i64 0∧fr 10=.int .i64 (h:Int)∧fr 11=.int .i64 ((s.1:Int)-1)∧
  H=DH enc G B s.2++X∧s.2.size=n∧T=heapPop (ltC c) a h (heapBuild (ltC c) h a s.1 s.2)) ((h-1) / 2+1,d) ⟨by simp only;omega,by simp only;omega,by simp only;omega,(by rfl),(by rfl),(by rfl),(by rfl),(by rfl),(by rfl),rfl,hd,hT.symm⟩ ?_
 rintro ⟨k,d1⟩ fr H ⟨h1,h2,h3,g0,g3,g8,g9,g10,g11,rfl,hd1,he⟩ hN
 simp only at h1 h2 h3 g11 hd1 he
 rw [zRc (lHEAP_2.eq_1 iz)]
 cases k with
 | succ k=>
   have hk:((k+1:Nat):Int)-1=(k:Int):=by omega
   rw [hk] at g11
   have hw3:IntKind.i64.wrap ((k:Int)-1)=(k:Int)-1:=zWi (by omega) (by omega)
   have hk1:k≤h:=by omega
   have hk0:(0:Int)≤(k:Int):=by omega
   simp only [nHEAP,rHEAP,g0,g3,g8,g9,g10,g11,hk0,hw3,hsift,hd1,hk1,SB,seval,zCa,aOp,zB,aUn,reduceCtorEq,zFr,place,zTu,zRe]
   refine hN (k,siftDown (ltC c) h a k d1) _ _ ⟨by simp only;omega,by simp only;omega,by simp only;omega,by exact g0,by exact g3,by exact g8,by exact g9,by exact g10,(by rfl),by simp,by simp only;rw [siftDown_sz _ _ _ (Nat.le_refl _),hd1],he⟩ (by simp only;omega)
 | zero=>
   clear hN
   rw [heapBuild] at he
   simp only [nHEAP,rHEAP,g0,g3,g8,g9,g10,g11,hw1,Int.cast_ofNat_Int,Int.ofNat_eq_natCast,Int.reduceSub,Int.zero_sub,Int.reduceNeg,SB,seval,zCa,aOp,zB,aUn,reduceCtorEq,zFr,place,zTu,zRe]
   refine zRr (S:=Nat×Array α) (fun s=>s.1) (fun s fr H=>s.1≤h∧fr 0=.slice p n cap∧fr 3=.func (.func cl) #[] cs.toArray∧fr 8=.int .i64 (a:Int)∧fr 9=.int .i64 0∧fr 12=.int .i64 ((s.1:Int)-1)∧
    H=DH enc G B s.2++X∧s.2.size=n∧T=heapPop (ltC c) a s.1 s.2) (h,d1) ⟨Nat.le_refl _,by exact g0,by exact g3,by exact g8,by exact g9,(by rfl),by simp,hd1,he⟩ ?_
   rintro ⟨k,d2⟩ fr2 H2 ⟨k1,q0,q3,q8,q9,q12,rfl,hd2,hf⟩ hM
   simp only at k1 q12 hd2 hf
   rw [zRc (lHEAP_1.eq_1 iz)]
   cases k with
   | succ k=>
     have hk:((k+1:Nat):Int)-1=(k:Int):=by omega
     rw [hk] at q12
     have hw3:IntKind.i64.wrap ((k:Int)-1)=(k:Int)-1:=zWi (by omega) (by omega)
     have hw4:IntKind.i64.wrap ((a:Int)+(k:Int))=((a+k:Nat):Int):=by rw [zWi (by omega) (by omega)];omega
     have i1:a<n:=by omega
     have i2:a+k<n:=by omega
     have hk1:k≤h:=by omega
     have hk0:(0:Int)≤(k:Int):=by omega
     have hsift0:=fun (X:zH) (d:Array α) (hi:Nat) (hd:d.size=n) (hh:hi≤h) Q=>hsift X d 0 hi hd hh (Nat.zero_le _) Q
     simp only [show ((0:Nat):Int)=0 from rfl] at hsift0
     simp only [nHEAP,rHEAP,q0,q3,q8,q9,q12,hk0,hw3,hw4,hsift0,hd2,hk1,ld,st,ix,List.append_nil,Array.size_setIfInBounds,(EncOk.len (enc:=enc) (z:=iz)),i1,i2,SB,seval,zCa,aOp,zB,aUn,reduceCtorEq,zFr,place,zTu,zRe]
     refine hM (k,siftDown (ltC c) k a 0 (swp d2 a (a+k))) _ _ ⟨by simp only;omega,by exact q0,by exact q3,by exact q8,by exact q9,(by rfl),by simp [swp],by simp only;rw [siftDown_sz _ _ _ (Nat.le_refl _),swp_sz,hd2],hf⟩ (by simp only;omega)
   | zero=>
     rw [heapPop] at hf
     simp only [nHEAP,rHEAP,q0,q3,q8,q9,q12,hf,Int.reduceSub,Int.zero_sub,Int.reduceNeg,SB,seval,zCa,aOp,zB,aUn,reduceCtorEq,zFr,place,zTu,zRe]
variable {E:Env} {iz:Ids} [DT E E] [SortAt E iz] {α:Type} [Inhabited α] {enc:α→List Value} [EncOk enc iz]
theorem scanUp_step {α:Type} [Inhabited α] {p:α→Bool} {d:Array α} {j i:Nat} (h:i≤j) (hp:p d[i]! = true):scanUp p d j i=scanUp p d j (i+1):=by
 rw [scanUp];simp [h,hp]
theorem scanUp_stop {α:Type} [Inhabited α] {p:α→Bool} {d:Array α} {j i:Nat} (h:i≤j→p d[i]! = false):scanUp p d j i=i:=by
 rw [scanUp]
 by_cases q:i≤j
 ·simp [h q]
 ·simp [q]
theorem scanDown_step {α:Type} [Inhabited α] {p:α→Bool} {d:Array α} {j i:Nat} (h:i≤j) (h0:0<j) (hp:p d[j]! = true):scanDown p d i j=scanDown p d i (j-1):=by
 obtain ⟨j,rfl⟩:∃j',j=j'+1:=⟨j-1,by omega⟩
 rw [scanDown];simp [h,hp]
theorem scanDown_stop {α:Type} [Inhabited α] {p:α→Bool} {d:Array α} {j i:Nat} (h:i≤j→p d[j]! = false):scanDown p d i j=j:=by
 cases j with
 | zero=>rfl
 | succ j=>
   rw [scanDown]
   by_cases q:i≤j+1
   ·simp [h q]
   ·simp [q]
theorem partEq_stop {α:Type} [Inhabited α] {lt:α→α→Bool} {a i j i2 j2:Nat} {d:Array α} (h1:scanUp (fun x=>!lt d[a]! x) d j i=i2) (h2:scanDown (fun x=>lt d[a]! x) d i2 j=j2) (h:i2 > j2):partEqLoop lt a i j d=(i2,d):=by
 rw [partEqLoop];simp only [h1,h2];rw [if_pos h]
theorem partEq_next {α:Type} [Inhabited α] {lt:α→α→Bool} {a i j i2 j2:Nat} {d:Array α} (h1:scanUp (fun x=>!lt d[a]! x) d j i=i2) (h2:scanDown (fun x=>lt d[a]! x) d i2 j=j2) (h:¬i2 > j2) (g1:i≤i2) (g2:j2≤j) (g3:0<i2):partEqLoop lt a i j d=partEqLoop lt a (i2+1) (j2-1) (swp d i2 j2):=by
 rw [partEqLoop];simp only [h1,h2];rw [if_neg h,dif_pos (by omega)]
theorem peq_ok {G X:zH} {B lim cap n:Nat} {p:Option Addr} {c:α→α→Int} {cl:FuncId} {cs:List Value} {Q:Value→zH→Prop} (hp:p=some ⟨B,0,none⟩) (hB:B<G.length) (hl:lim≤B) (hn2:n<2 ^ 61) (hc:∀(mp:Bool) (lim:Nat) (x y:α) (H:zH) (Q:Value→zH→Prop),za0 E mp lim cl (.agg (enc x).toArray::.agg (enc y).toArray::cs) H Q=Q (.int .i64 (c x y)) H) {d:Array α} {a b v:Nat} (hd:d.size=n) (hb:b≤n) (hab:a≤v) (hvb:v<b) :
  za0 E false lim iz.PEQ [.slice p n cap,.int .i64 (a:Int),.int .i64 (b:Int),.int .i64 (v:Int),.func (.func cl) #[] cs.toArray] (DH enc G B d++X) Q=Q (.int .i64 ((partitionEqual (ltC c) d a b v).1:Nat)) (DH enc G B (partitionEqual (ltC c) d a b v).2++X):=by
 refine runs (SortAt.PEQ (E:=E) (z:=iz)) ?_
 rw [bPEQ,cPEQ]
 have hw0:IntKind.i64.wrap ((b:Int)-1)=((b-1:Nat):Int):=zab (by omega) (by omega)
 have hw1:IntKind.i64.wrap ((a:Int)+1)=((a+1:Nat):Int):=zWn (by omega)
 generalize hT:partitionEqual (ltC c) d a b v=T
 rw [partitionEqual] at hT
 have ld:=fun (i:Nat) (X:zH) (d:Array α) (hd:d.size=n) (hi:i<n)=>DH_ld (X:=X) (d:=d) (i:=i) hp hB (EncOk.len (enc:=enc) (z:=iz)) (by omega);have st:=fun (i:Nat) (X:zH) (d:Array α) (hd:d.size=n) (hi:i<n) (y:α)=>DH_st (X:=X) (d:=d) (i:=i) (y:=y) hp hB hl (EncOk.len (enc:=enc) (z:=iz)) (by omega);have ix:=fun (i:Nat) (hi:i<n) c (k:IntKind) (H:zH)=>DH_idx (e:=iz.e) (i:=i) (n:=n) (c:=c) (k:=k) (H:=H) hp hi
 have i1:a<n:=by omega
 have i2:v<n:=by omega
 simp only [nPEQ,rPEQ,hw0,hw1,ld,st,ix,List.append_nil,Array.size_setIfInBounds,(EncOk.len (enc:=enc) (z:=iz)),hd,i1,i2,SB,seval,zCa,aOp,zB,aUn,reduceCtorEq,zFr,place,zTu,zRe]
 refine zRr (S:=(Nat×Nat)×Array α) (fun s=>s.1.2+1-s.1.1) (fun s fr H=>a<s.1.1∧s.1.1≤b∧s.1.2<b∧fr 0=.slice p n cap∧fr 1=.int .i64 (a:Int)∧fr 4=.func (.func cl) #[] cs.toArray∧fr 11=.int .i64 (s.1.1:Int)∧fr 12=.int .i64 (s.1.2:Int)∧
  H=DH enc G B s.2++X∧s.2.size=n∧T=partEqLoop (ltC c) a s.1.1 s.1.2 s.2) ((a+1,b-1),swp d a v) ⟨by simp only;omega,by simp only;omega,by simp only;omega,(by rfl),(by rfl),(by rfl),(by rfl),(by rfl),by simp [swp],by simp [swp,hd],hT.symm⟩ ?_
 rintro ⟨⟨i,j⟩,d1⟩ fr H ⟨h1,h2,h3,g0,g1,g4,g11,g12,rfl,hd1,he⟩ hN
 simp only at h1 h2 h3 g11 g12 hd1 he
 rw [zRc (lPEQ_3.eq_1 iz)]
 simp only [nPEQ,rPEQ,SB,seval,zCa,aOp,zB,aUn,reduceCtorEq,zFr,place,zTu,zRe]
 refine zRr (S:=Nat) (fun s=>b+1-s) (fun s fr H=>i≤s∧s≤b∧fr 0=.slice p n cap∧fr 1=.int .i64 (a:Int)∧fr 4=.func (.func cl) #[] cs.toArray∧fr 11=.int .i64 (s:Int)∧fr 12=.int .i64 (j:Int)∧
  H=DH enc G B d1++X∧scanUp (fun x=>!ltC c d1[a]! x) d1 j i=scanUp (fun x=>!ltC c d1[a]! x) d1 j s) i ⟨Nat.le_refl _,h2,g0,g1,g4,g11,g12,rfl,rfl⟩ ?_
 rintro i' fr1 H1 ⟨k1,k2,q0,q1,q4,q11,q12,rfl,hs⟩ hM
 rw [zRc (lPEQ_2.eq_1 iz)]
 by_cases c1:i'≤j∧¬c d1[a]! d1[i']!<0
 ·obtain ⟨c1,c2⟩:=c1
  have hw2:IntKind.i64.wrap ((i':Int)+1)=((i'+1:Nat):Int):=zWn (by omega)
  have i3:i'<n:=by omega
  simp only [nPEQ,rPEQ,q0,q1,q4,q11,q12,c1,c2,hw2,ld,st,ix,List.append_nil,Array.size_setIfInBounds,(EncOk.len (enc:=enc) (z:=iz)),hd1,i1,i3,hc,SB,seval,zCa,aOp,zB,aUn,reduceCtorEq,zFr,place,zTu,zRe]
  exact hM (i'+1) _ _ ⟨by omega,by omega,by exact q0,by exact q1,by exact q4,(by rfl),by exact q12,rfl,by rw [hs,scanUp_step c1 (by simp [ltC,c2])]⟩ (by omega)
 have hs2:scanUp (fun x=>!ltC c d1[a]! x) d1 j i=i':=by
  rw [hs,scanUp_stop]
  intro q
  by_cases q2:c d1[a]! d1[i']!<0
  ·simp [ltC,q2]
  ·exact absurd ⟨q,q2⟩ c1
 clear hM
 have hx:(i'≤j∧c d1[a]! d1[i']!<0)∨¬i'≤j:=by
  by_cases q:i'≤j
  ·exact .inl ⟨q,Classical.byContradiction fun q2=>c1 ⟨q,q2⟩⟩
  ·exact .inr q
 have i0:i'≤j→i'<n:=fun q=>by omega
 rcases hx with ⟨c2,c3⟩ | c2
 case' inl=>simp only [nPEQ,rPEQ,q0,q1,q4,q11,q12,c2,c3,ld,st,ix,List.append_nil,Array.size_setIfInBounds,(EncOk.len (enc:=enc) (z:=iz)),hd1,i1,i0 c2,hc,SB,seval,zCa,aOp,zB,aUn,reduceCtorEq,zFr,place,zTu,zRe]
 case' inr=>simp only [nPEQ,rPEQ,q0,q1,q4,q11,q12,c2,ld,st,ix,List.append_nil,Array.size_setIfInBounds,(EncOk.len (enc:=enc) (z:=iz)),SB,seval,zCa,aOp,zB,aUn,reduceCtorEq,zFr,place,zTu,zRe]
 all_goals
  refine zRr (S:=Nat) (fun s=>s) (fun s fr H=>s≤j∧fr 0=.slice p n cap∧fr 1=.int .i64 (a:Int)∧fr 4=.func (.func cl) #[] cs.toArray∧fr 11=.int .i64 (i':Int)∧fr 12=.int .i64 (s:Int)∧
   H=DH enc G B d1++X∧scanDown (fun x=>ltC c d1[a]! x) d1 i' j=scanDown (fun x=>ltC c d1[a]! x) d1 i' s) j ⟨Nat.le_refl _,by exact q0,by exact q1,by exact q4,by exact q11,by exact q12,rfl,rfl⟩ ?_
  rintro j' fr2 H2 ⟨m1,p0,p1,p4,p11,p12,rfl,hs'⟩ hM
  rw [zRc (lPEQ_1.eq_1 iz)]
  have i4:j'<n:=by omega
  by_cases c4:i'≤j'∧c d1[a]! d1[j']!<0
  ·obtain ⟨c4,c5⟩:=c4
   have hw3:IntKind.i64.wrap ((j':Int)-1)=((j'-1:Nat):Int):=zab (by omega) (by omega)
   simp only [nPEQ,rPEQ,p0,p1,p4,p11,p12,c4,c5,hw3,ld,st,ix,List.append_nil,Array.size_setIfInBounds,(EncOk.len (enc:=enc) (z:=iz)),hd1,i1,i4,hc,SB,seval,zCa,aOp,zB,aUn,reduceCtorEq,zFr,place,zTu,zRe]
   exact hM (j'-1) _ _ ⟨by omega,by exact p0,by exact p1,by exact p4,by exact p11,(by rfl),rfl,by rw [hs',scanDown_step c4 (by omega) (by simp [ltC,c5])]⟩ (by omega)
  have hs3:scanDown (fun x=>ltC c d1[a]! x) d1 i' j=j':=by
   rw [hs',scanDown_stop]
   intro q
   have q2:¬c d1[a]! d1[j']!<0:=fun q2=>c4 ⟨q,q2⟩
   simp [ltC,q2]
  clear hM
  by_cases c6:j'<i'
  ·have c7:¬i'≤j':=by omega
   rw [partEq_stop hs2 hs3 c6] at he
   simp only [nPEQ,rPEQ,p0,p1,p4,p11,p12,c7,c6,ld,st,ix,List.append_nil,Array.size_setIfInBounds,(EncOk.len (enc:=enc) (z:=iz)),he,SB,seval,zCa,aOp,zB,aUn,reduceCtorEq,zFr,place,zTu,zRe]
  ·have c7:i'≤j':=by omega
   have c8:¬c d1[a]! d1[j']!<0:=fun q=>c4 ⟨c7,q⟩
   rw [partEq_next hs2 hs3 c6 k1 m1 (by omega)] at he
   have i5:i'<n:=by omega
   have hw3:IntKind.i64.wrap ((j':Int)-1)=((j'-1:Nat):Int):=zab (by omega) (by omega)
   have hw4:IntKind.i64.wrap ((i':Int)+1)=((i'+1:Nat):Int):=zWn (by omega)
   simp only [nPEQ,rPEQ,p0,p1,p4,p11,p12,c7,c6,c8,hw3,hw4,ld,st,ix,List.append_nil,Array.size_setIfInBounds,(EncOk.len (enc:=enc) (z:=iz)),hd1,i1,i4,i5,hc,SB,seval,zCa,aOp,zB,aUn,reduceCtorEq,zFr,place,zTu,zRe]
   exact hN ((i'+1,j'-1),swp d1 i' j') _ _ ⟨by simp only;omega,by simp only;omega,by simp only;omega,by exact p0,by exact p1,by exact p4,(by rfl),(by rfl),by simp [swp],by simp [swp,hd1],he⟩ (by simp only;omega)
variable {E:Env} {iz:Ids} [DT E E] [SortAt E iz] {α:Type} [Inhabited α] {enc:α→List Value} [EncOk enc iz]
theorem part_stop {α:Type} [Inhabited α] {lt:α→α→Bool} {a i j i2 j2:Nat} {d:Array α} (h1:scanUp (fun x=>lt x d[a]!) d j i=i2) (h2:scanDown (fun x=>!lt x d[a]!) d i2 j=j2) (h:i2 > j2):partLoop lt a i j d=(j2,d):=by
 rw [partLoop];simp only [h1,h2];rw [if_pos h]
theorem part_next {α:Type} [Inhabited α] {lt:α→α→Bool} {a i j i2 j2:Nat} {d:Array α} (h1:scanUp (fun x=>lt x d[a]!) d j i=i2) (h2:scanDown (fun x=>!lt x d[a]!) d i2 j=j2) (h:¬i2 > j2) (g1:i≤i2) (g2:j2≤j) (g3:0<i2):partLoop lt a i j d=partLoop lt a (i2+1) (j2-1) (swp d i2 j2):=by
 rw [partLoop];simp only [h1,h2];rw [if_neg h,dif_pos (by omega)]
theorem part_sort {G X:zH} {B lim cap n:Nat} {p:Option Addr} {c:α→α→Int} {cl:FuncId} {cs:List Value} {Q:Value→zH→Prop} (hp:p=some ⟨B,0,none⟩) (hB:B<G.length) (hl:lim≤B) (hn2:n<2 ^ 61) (hc:∀(mp:Bool) (lim:Nat) (x y:α) (H:zH) (Q:Value→zH→Prop),za0 E mp lim cl (.agg (enc x).toArray::.agg (enc y).toArray::cs) H Q=Q (.int .i64 (c x y)) H) {d:Array α} {a b v:Nat} (hd:d.size=n) (hb:b≤n) (hab:a≤v) (hvb:v<b) :
  za0 E false lim iz.PART [.slice p n cap,.int .i64 (a:Int),.int .i64 (b:Int),.int .i64 (v:Int),.func (.func cl) #[] cs.toArray] (DH enc G B d++X) Q=Q (.tuple #[.int .i64 ((Sort.partition (ltC c) d a b v).1:Nat),.bool (Sort.partition (ltC c) d a b v).2.1]) (DH enc G B (Sort.partition (ltC c) d a b v).2.2++X):=by
 refine runs (SortAt.PART (E:=E) (z:=iz)) ?_
 rw [bPART,cPART]
 have hw0:IntKind.i64.wrap ((b:Int)-1)=((b-1:Nat):Int):=zab (by omega) (by omega)
 have hw1:IntKind.i64.wrap ((a:Int)+1)=((a+1:Nat):Int):=zWn (by omega)
 generalize hT:Sort.partition (ltC c) d a b v=T
 rw [Sort.partition] at hT
 have ld:=fun (i:Nat) (X:zH) (d:Array α) (hd:d.size=n) (hi:i<n)=>DH_ld (X:=X) (d:=d) (i:=i) hp hB (EncOk.len (enc:=enc) (z:=iz)) (by omega);have st:=fun (i:Nat) (X:zH) (d:Array α) (hd:d.size=n) (hi:i<n) (y:α)=>DH_st (X:=X) (d:=d) (i:=i) (y:=y) hp hB hl (EncOk.len (enc:=enc) (z:=iz)) (by omega);have ix:=fun (i:Nat) (hi:i<n) c (k:IntKind) (H:zH)=>DH_idx (e:=iz.e) (i:=i) (n:=n) (c:=c) (k:=k) (H:=H) hp hi
 have i1:a<n:=by omega
 have i2:v<n:=by omega
 simp only [nPART,rPART,hw0,hw1,ld,st,ix,List.append_nil,Array.size_setIfInBounds,(EncOk.len (enc:=enc) (z:=iz)),hd,i1,i2,SB,seval,zCa,aOp,zB,aUn,reduceCtorEq,zFr,place,zTu,zRe]
 have hd0:(swp d a v).size=n:=by simp [swp,hd]
 have hswp:(d.setIfInBounds a d[v]!).setIfInBounds v d[a]! = swp d a v:=rfl
 rw [hswp]
 generalize swp d a v=d1 at hT hd0
 have k0:a+1≤b:=by omega
 refine zRr (S:=Nat) (fun s=>b+1-s) (fun s fr H=>(a+1)≤s∧s≤(b-1)+1∧fr 0=.slice p n cap∧fr 1=.int .i64 (a:Int)∧fr 4=.func (.func cl) #[] cs.toArray∧fr 12=.int .i64 (s:Int)∧fr 13=.int .i64 ((b-1:Nat):Int)∧
  H=DH enc G B d1++X∧scanUp (fun x=>ltC c x d1[a]!) d1 (b-1) (a+1)=scanUp (fun x=>ltC c x d1[a]!) d1 (b-1) s) (a+1) ⟨Nat.le_refl _,by omega,(by rfl),(by rfl),(by rfl),(by rfl),(by rfl),rfl,rfl⟩ ?_
 rintro i' fr1 H1 ⟨x1,k2,q0,q1,q4,q12,q13,rfl,hs⟩ hM
 rw [zRc (lPART_5.eq_1 iz)]
 by_cases c1:i'≤(b-1)∧c d1[i']! d1[a]!<0
 ·obtain ⟨cc1,cc2⟩:=c1
  have hw2:IntKind.i64.wrap ((i':Int)+1)=((i'+1:Nat):Int):=zWn (by omega)
  have i3:i'<n:=by omega
  simp only [nPART,rPART,q0,q1,q4,q12,q13,cc1,cc2,hw2,ld,st,ix,List.append_nil,Array.size_setIfInBounds,(EncOk.len (enc:=enc) (z:=iz)),hd0,i1,i3,hc,SB,seval,zCa,aOp,zB,aUn,reduceCtorEq,zFr,place,zTu,zRe]
  exact hM (i'+1) _ _ ⟨by omega,by omega,by exact q0,by exact q1,by exact q4,(by rfl),by exact q13,rfl,by rw [hs,scanUp_step cc1 (by simp [ltC,cc2])]⟩ (by omega)
 have hs2:scanUp (fun x=>ltC c x d1[a]!) d1 (b-1) (a+1)=i':=by
  rw [hs,scanUp_stop]
  intro q
  have q2:¬c d1[i']! d1[a]!<0:=fun q2=>c1 ⟨q,q2⟩
  simp [ltC,q2]
 clear hM
 have hx:(i'≤(b-1)∧¬c d1[i']! d1[a]!<0)∨¬i'≤(b-1):=by
  by_cases q:i'≤(b-1)
  ·exact .inl ⟨q,fun q2=>c1 ⟨q,q2⟩⟩
  ·exact .inr q
 have i0:i'≤(b-1)→i'<n:=fun q=>by omega
 have hxx:=hx
 rcases hx with ⟨cc2,cc3⟩ | cc2
 case' inl=>simp only [nPART,rPART,q0,q1,q4,q12,q13,cc2,cc3,ld,st,ix,List.append_nil,Array.size_setIfInBounds,(EncOk.len (enc:=enc) (z:=iz)),hd0,i1,i0 cc2,hc,SB,seval,zCa,aOp,zB,aUn,reduceCtorEq,zFr,place,zTu,zRe]
 case' inr=>simp only [nPART,rPART,q0,q1,q4,q12,q13,cc2,ld,st,ix,List.append_nil,Array.size_setIfInBounds,(EncOk.len (enc:=enc) (z:=iz)),SB,seval,zCa,aOp,zB,aUn,reduceCtorEq,zFr,place,zTu,zRe]
 all_goals
  clear cc2
  refine zRr (S:=Nat) (fun s=>s) (fun s fr H=>s≤(b-1)∧i'≤s+1∧fr 0=.slice p n cap∧fr 1=.int .i64 (a:Int)∧fr 4=.func (.func cl) #[] cs.toArray∧fr 12=.int .i64 (i':Int)∧fr 13=.int .i64 (s:Int)∧
   H=DH enc G B d1++X∧scanDown (fun x=>!ltC c x d1[a]!) d1 i' (b-1)=scanDown (fun x=>!ltC c x d1[a]!) d1 i' s) (b-1) ⟨Nat.le_refl _,by omega,by exact q0,by exact q1,by exact q4,by exact q12,by exact q13,rfl,rfl⟩ ?_
  rintro j' fr2 H2 ⟨y1,y2,p0,p1,p4,p12,p13,rfl,hs'⟩ hM
  rw [zRc (lPART_4.eq_1 iz)]
  have i4:j'<n:=by omega
  by_cases c4:i'≤j'∧¬c d1[j']! d1[a]!<0
  ·obtain ⟨cc4,cc5⟩:=c4
   have hw3:IntKind.i64.wrap ((j':Int)-1)=((j'-1:Nat):Int):=zab (by omega) (by omega)
   simp only [nPART,rPART,p0,p1,p4,p12,p13,cc4,cc5,hw3,ld,st,ix,List.append_nil,Array.size_setIfInBounds,(EncOk.len (enc:=enc) (z:=iz)),hd0,i1,i4,hc,SB,seval,zCa,aOp,zB,aUn,reduceCtorEq,zFr,place,zTu,zRe]
   exact hM (j'-1) _ _ ⟨by omega,by omega,by exact p0,by exact p1,by exact p4,by exact p12,(by rfl),rfl,by rw [hs',scanDown_step cc4 (by omega) (by simp [ltC,cc5])]⟩ (by omega)
  have hs3:scanDown (fun x=>!ltC c x d1[a]!) d1 i' (b-1)=j':=by
   rw [hs',scanDown_stop]
   intro q
   have q2:c d1[j']! d1[a]!<0:=Classical.byContradiction fun q2=>c4 ⟨q,q2⟩
   simp [ltC,q2]
  clear hM
  by_cases c6:j'<i'
  ·have c7:¬i'≤j':=by omega
   have i6:j'<n:=by omega
   simp only [hs2,hs3] at hT
   rw [if_pos (show i' > j' from c6)] at hT
   simp only [nPART,rPART,p0,p1,p4,p12,p13,c7,c6,ld,st,ix,List.append_nil,Array.size_setIfInBounds,(EncOk.len (enc:=enc) (z:=iz)),hd0,i1,i6,SB,seval,zCa,aOp,zB,aUn,reduceCtorEq,zFr,place,zTu,zRe]
   rw [←hT]
   exact ⟨rfl,rfl⟩
  ·have c7:i'≤j':=by omega
   have c8:c d1[j']! d1[a]!<0:=Classical.byContradiction fun q=>c4 ⟨c7,q⟩
   have c9:i'≠j':=by
    rintro rfl
    rcases hxx with q | q
    ·exact q.2 c8
    ·exact q (by omega)
   simp only [hs2,hs3] at hT
   rw [if_neg (show ¬i' > j' from c6)] at hT
   have i5:i'<n:=by omega
   have i6:j'<n:=by omega
   have hw3:IntKind.i64.wrap ((j':Int)-1)=((j'-1:Nat):Int):=zab (by omega) (by omega)
   have hw4:IntKind.i64.wrap ((i':Int)+1)=((i'+1:Nat):Int):=zWn (by omega)
   simp only [nPART,rPART,p0,p1,p4,p12,p13,c7,c6,c8,hw3,hw4,ld,st,ix,List.append_nil,Array.size_setIfInBounds,(EncOk.len (enc:=enc) (z:=iz)),hd0,i1,i6,i5,hc,SB,seval,zCa,aOp,zB,aUn,reduceCtorEq,zFr,place,zTu,zRe]
   generalize hL:partLoop (ltC c) a (i'+1) (j'-1) (swp d1 i' j')=L at hT
   refine zRr (S:=(Nat×Nat)×Array α) (fun s=>s.1.2+1-s.1.1) (fun s fr H=>a<s.1.1∧s.1.1≤s.1.2+1∧s.1.2<b∧fr 0=.slice p n cap∧fr 1=.int .i64 (a:Int)∧fr 4=.func (.func cl) #[] cs.toArray∧fr 12=.int .i64 (s.1.1:Int)∧fr 13=.int .i64 (s.1.2:Int)∧
    H=DH enc G B s.2++X∧s.2.size=n∧L=partLoop (ltC c) a s.1.1 s.1.2 s.2) ((i'+1,j'-1),swp d1 i' j') ⟨by simp only;omega,by simp only;omega,by simp only;omega,by exact p0,by exact p1,by exact p4,(by rfl),(by rfl),by simp [swp],by simp [swp,hd0],hL.symm⟩ ?_
   clear hs2 hs3 hs hs' c1 c4 hxx i0 hL
   rintro ⟨⟨i,j⟩,d2⟩ fr H ⟨h1,h2,h3,g0,g1,g4,g12,g13,rfl,hd2,he⟩ hN
   simp only at h1 h2 h3 g12 g13 hd2 he
   rw [zRc (lPART_3.eq_1 iz)]
   simp only [nPART,rPART,SB,seval,zCa,aOp,zB,aUn,reduceCtorEq,zFr,place,zTu,zRe]
   refine zRr (S:=Nat) (fun s=>b+1-s) (fun s fr H=>i≤s∧s≤j+1∧fr 0=.slice p n cap∧fr 1=.int .i64 (a:Int)∧fr 4=.func (.func cl) #[] cs.toArray∧fr 12=.int .i64 (s:Int)∧fr 13=.int .i64 (j:Int)∧
    H=DH enc G B d2++X∧scanUp (fun u=>ltC c u d2[a]!) d2 j i=scanUp (fun u=>ltC c u d2[a]!) d2 j s) i ⟨Nat.le_refl _,by omega,g0,g1,g4,g12,g13,rfl,rfl⟩ ?_
   rintro x fr1 H1 ⟨x1,k2,q0,q1,q4,q12,q13,rfl,us⟩ hM
   rw [zRc (lPART_2.eq_1 iz)]
   by_cases z1:x≤j∧c d2[x]! d2[a]!<0
   ·obtain ⟨cc1,cc2⟩:=z1
    have hw2:IntKind.i64.wrap ((x:Int)+1)=((x+1:Nat):Int):=zWn (by omega)
    have i3:x<n:=by omega
    simp only [nPART,rPART,q0,q1,q4,q12,q13,cc1,cc2,hw2,ld,st,ix,List.append_nil,Array.size_setIfInBounds,(EncOk.len (enc:=enc) (z:=iz)),hd2,i1,i3,hc,SB,seval,zCa,aOp,zB,aUn,reduceCtorEq,zFr,place,zTu,zRe]
    exact hM (x+1) _ _ ⟨by omega,by omega,by exact q0,by exact q1,by exact q4,(by rfl),by exact q13,rfl,by rw [us,scanUp_step cc1 (by simp [ltC,cc2])]⟩ (by omega)
   have us2:scanUp (fun u=>ltC c u d2[a]!) d2 j i=x:=by
    rw [us,scanUp_stop]
    intro q
    have q2:¬c d2[x]! d2[a]!<0:=fun q2=>z1 ⟨q,q2⟩
    simp [ltC,q2]
   clear hM
   have hz:(x≤j∧¬c d2[x]! d2[a]!<0)∨¬x≤j:=by
    by_cases q:x≤j
    ·exact .inl ⟨q,fun q2=>z1 ⟨q,q2⟩⟩
    ·exact .inr q
   have i0:x≤j→x<n:=fun q=>by omega
   have hzz:=hz
   rcases hz with ⟨cc2,cc3⟩ | cc2
   case' inl=>simp only [nPART,rPART,q0,q1,q4,q12,q13,cc2,cc3,ld,st,ix,List.append_nil,Array.size_setIfInBounds,(EncOk.len (enc:=enc) (z:=iz)),hd2,i1,i0 cc2,hc,SB,seval,zCa,aOp,zB,aUn,reduceCtorEq,zFr,place,zTu,zRe]
   case' inr=>simp only [nPART,rPART,q0,q1,q4,q12,q13,cc2,ld,st,ix,List.append_nil,Array.size_setIfInBounds,(EncOk.len (enc:=enc) (z:=iz)),SB,seval,zCa,aOp,zB,aUn,reduceCtorEq,zFr,place,zTu,zRe]
   all_goals
    clear cc2
    refine zRr (S:=Nat) (fun s=>s) (fun s fr H=>s≤j∧x≤s+1∧fr 0=.slice p n cap∧fr 1=.int .i64 (a:Int)∧fr 4=.func (.func cl) #[] cs.toArray∧fr 12=.int .i64 (x:Int)∧fr 13=.int .i64 (s:Int)∧
     H=DH enc G B d2++X∧scanDown (fun u=>!ltC c u d2[a]!) d2 x j=scanDown (fun u=>!ltC c u d2[a]!) d2 x s) j ⟨Nat.le_refl _,by omega,by exact q0,by exact q1,by exact q4,by exact q12,by exact q13,rfl,rfl⟩ ?_
    rintro y fr2 H2 ⟨y1,y2,t0,t1,t4,t12,t13,rfl,us'⟩ hM
    rw [zRc (lPART_1.eq_1 iz)]
    have i4:y<n:=by omega
    by_cases z4:x≤y∧¬c d2[y]! d2[a]!<0
    ·obtain ⟨cc4,cc5⟩:=z4
     have hw3:IntKind.i64.wrap ((y:Int)-1)=((y-1:Nat):Int):=zab (by omega) (by omega)
     simp only [nPART,rPART,t0,t1,t4,t12,t13,cc4,cc5,hw3,ld,st,ix,List.append_nil,Array.size_setIfInBounds,(EncOk.len (enc:=enc) (z:=iz)),hd2,i1,i4,hc,SB,seval,zCa,aOp,zB,aUn,reduceCtorEq,zFr,place,zTu,zRe]
     exact hM (y-1) _ _ ⟨by omega,by omega,by exact t0,by exact t1,by exact t4,by exact t12,(by rfl),rfl,by rw [us',scanDown_step cc4 (by omega) (by simp [ltC,cc5])]⟩ (by omega)
    have us3:scanDown (fun u=>!ltC c u d2[a]!) d2 x j=y:=by
     rw [us',scanDown_stop]
     intro q
     have q2:c d2[y]! d2[a]!<0:=Classical.byContradiction fun q2=>z4 ⟨q,q2⟩
     simp [ltC,q2]
    clear hM
    by_cases z6:y<x
    ·have z7:¬x≤y:=by omega
     have i6:y<n:=by omega
     rw [part_stop us2 us3 z6] at he
     simp only [nPART,rPART,t0,t1,t4,t12,t13,z7,z6,ld,st,ix,List.append_nil,Array.size_setIfInBounds,(EncOk.len (enc:=enc) (z:=iz)),hd2,i1,i6,SB,seval,zCa,aOp,zB,aUn,reduceCtorEq,zFr,place,zTu,zRe]
     rw [←hT,he]
     exact ⟨rfl,rfl⟩
    ·have z7:x≤y:=by omega
     have z8:c d2[y]! d2[a]!<0:=Classical.byContradiction fun q=>z4 ⟨z7,q⟩
     have z9:x≠y:=by
      rintro rfl
      rcases hzz with q | q
      ·exact q.2 z8
      ·exact q (by omega)
     rw [part_next us2 us3 z6 x1 y1 (by omega)] at he
     have i5:x<n:=by omega
     have i6:y<n:=by omega
     have hw5:IntKind.i64.wrap ((y:Int)-1)=((y-1:Nat):Int):=zab (by omega) (by omega)
     have hw6:IntKind.i64.wrap ((x:Int)+1)=((x+1:Nat):Int):=zWn (by omega)
     simp only [nPART,rPART,t0,t1,t4,t12,t13,z7,z6,z8,hw5,hw6,ld,st,ix,List.append_nil,Array.size_setIfInBounds,(EncOk.len (enc:=enc) (z:=iz)),hd2,i1,i6,i5,hc,SB,seval,zCa,aOp,zB,aUn,reduceCtorEq,zFr,place,zTu,zRe]
     exact hN ((x+1,y-1),swp d2 x y) _ _ ⟨by simp only;omega,by simp only;omega,by simp only;omega,by exact t0,by exact t1,by exact t4,(by rfl),(by rfl),by simp [swp],by simp [swp,hd2],he⟩ (by simp only;omega)
variable {E:Env} {iz:Ids} [DT E E] [SortAt E iz] {α:Type} [Inhabited α] {enc:α→List Value} [EncOk enc iz]
theorem scanS_step {α:Type} [Inhabited α] {lt:α→α→Bool} {d:Array α} {b i:Nat} (h:i<b) (hp:lt d[i]! d[i-1]! = false):scanSorted lt d b i=scanSorted lt d b (i+1):=by
 rw [scanSorted];simp [h,hp]
theorem scanS_stop {α:Type} [Inhabited α] {lt:α→α→Bool} {d:Array α} {b i:Nat} (h:i<b→lt d[i]! d[i-1]! = true):scanSorted lt d b i=i:=by
 rw [scanSorted]
 by_cases q:i<b
 ·simp [h q]
 ·simp [q]
def fixDownC {α:Type} [Inhabited α] (lt:α→α→Bool) (a i:Nat) (d:Array α):Array α:=if 2≤i-a then shiftDown lt (i-1) d else d
def fixUpC {α:Type} [Inhabited α] (lt:α→α→Bool) (b i:Nat) (d:Array α):Array α:=if 2≤b-i then shiftUp lt b (i+1) d else d
theorem partialIns_more {α:Type} [Inhabited α] {lt:α→α→Bool} {a b k i i':Nat} {d:Array α} (hs:scanSorted lt d b i=i') (h1:¬i'=b) (h2:¬b-a<50):partialIns lt a b (k+1) i d=partialIns lt a b k i' (fixUpC lt b i' (fixDownC lt a i' (swp d i' (i'-1)))):=by
 rw [partialIns]
 simp only [hs]
 rw [if_neg h1,if_neg h2]
 rfl
theorem pis_ok {G X:zH} {B lim cap n:Nat} {p:Option Addr} {c:α→α→Int} {cl:FuncId} {cs:List Value} {Q:Value→zH→Prop} (hp:p=some ⟨B,0,none⟩) (hB:B<G.length) (hl:lim≤B) (hn2:n<2 ^ 61) (hc:∀(mp:Bool) (lim:Nat) (x y:α) (H:zH) (Q:Value→zH→Prop),za0 E mp lim cl (.agg (enc x).toArray::.agg (enc y).toArray::cs) H Q=Q (.int .i64 (c x y)) H) {d:Array α} {a b:Nat} (hd:d.size=n) (hb:b≤n) (hab:a<b) :
  za0 E false lim iz.PIS [.slice p n cap,.int .i64 (a:Int),.int .i64 (b:Int),.func (.func cl) #[] cs.toArray] (DH enc G B d++X) Q=Q (.bool (partialInsertionSort (ltC c) d a b).2) (DH enc G B (partialInsertionSort (ltC c) d a b).1++X):=by
 refine runs (SortAt.PIS (E:=E) (z:=iz)) ?_
 rw [bPIS,cPIS]
 have hw1:IntKind.i64.wrap ((a:Int)+1)=((a+1:Nat):Int):=zWn (by omega)
 generalize hT:partialInsertionSort (ltC c) d a b=T
 rw [partialInsertionSort] at hT
 have ld:=fun (i:Nat) (X:zH) (d:Array α) (hd:d.size=n) (hi:i<n)=>DH_ld (X:=X) (d:=d) (i:=i) hp hB (EncOk.len (enc:=enc) (z:=iz)) (by omega);have st:=fun (i:Nat) (X:zH) (d:Array α) (hd:d.size=n) (hi:i<n) (y:α)=>DH_st (X:=X) (d:=d) (i:=i) (y:=y) hp hB hl (EncOk.len (enc:=enc) (z:=iz)) (by omega);have ix:=fun (i:Nat) (hi:i<n) c (k:IntKind) (H:zH)=>DH_idx (e:=iz.e) (i:=i) (n:=n) (c:=c) (k:=k) (H:=H) hp hi
 simp only [nPIS,rPIS,hw1,SB,seval,zCa,aOp,zB,aUn,reduceCtorEq,zFr,place,zTu,zRe]
 refine zRr (S:=Nat×Nat×Array α) (fun s=>s.1) (fun s fr H=>s.1≤5∧a<s.2.1∧s.2.1≤b∧fr 0=.slice p n cap∧fr 1=.int .i64 (a:Int)∧fr 2=.int .i64 (b:Int)∧fr 3=.func (.func cl) #[] cs.toArray∧fr 9=.int .i64 (s.2.1:Int)∧fr 10=.int .i64 (5-(s.1:Int))∧
  H=DH enc G B s.2.2++X∧s.2.2.size=n∧T=partialIns (ltC c) a b s.1 s.2.1 s.2.2) (5,a+1,d) ⟨by simp only;omega,by simp only;omega,by simp only;omega,(by rfl),(by rfl),(by rfl),(by rfl),(by rfl),by rfl,rfl,hd,hT.symm⟩ ?_
 rintro ⟨k,i,d1⟩ fr H ⟨h1,h2,h3,g0,g1,g2,g3,g9,g10,rfl,hd1,he⟩ hN
 simp only at h1 h2 h3 g9 g10 hd1 he
 rw [zRc (lPIS_4.eq_1 iz)]
 cases k with
 | zero=>
   have g10':fr 10=.int .i64 5:=by simpa using g10
   clear hN g10
   simp only [nPIS,rPIS,g0,g1,g2,g3,g9,g10',SB,seval,zCa,aOp,zB,aUn,reduceCtorEq,zFr,place,zTu,zRe]
   rw [he,partialIns]
   exact ⟨rfl,rfl⟩
 | succ k=>
   have hk:(5:Int)-((k+1:Nat):Int)<5:=by omega
   have hwk:IntKind.i64.wrap ((5:Int)-((k+1:Nat):Int)+1)=5-(k:Int):=by rw [zWi (by omega) (by omega)];omega
   simp only [nPIS,rPIS,g0,g1,g2,g3,g9,g10,hk,SB,seval,zCa,aOp,zB,aUn,reduceCtorEq,zFr,place,zTu,zRe]
   refine zRr (S:=Nat) (fun s=>b+1-s) (fun s fr H=>i≤s∧s≤b∧fr 0=.slice p n cap∧fr 1=.int .i64 (a:Int)∧fr 2=.int .i64 (b:Int)∧fr 3=.func (.func cl) #[] cs.toArray∧fr 9=.int .i64 (s:Int)∧fr 10=.int .i64 (5-((k+1:Nat):Int))∧
    H=DH enc G B d1++X∧scanSorted (ltC c) d1 b i=scanSorted (ltC c) d1 b s) i ⟨Nat.le_refl _,h3,by exact g0,by exact g1,by exact g2,by exact g3,by exact g9,by exact g10,rfl,rfl⟩ ?_
   rintro i' fr1 H1 ⟨x1,x2,q0,q1,q2,q3,q9,q10,rfl,hs⟩ hM
   rw [zRc (lPIS_3.eq_1 iz)]
   have hwi:IntKind.i64.wrap ((i':Int)-1)=((i'-1:Nat):Int):=zab (by omega) (by omega)
   have hwi1:IntKind.i64.wrap ((i':Int)+1)=((i'+1:Nat):Int):=zWn (by omega)
   have hwa:IntKind.i64.wrap ((i':Int)-(a:Int))=((i'-a:Nat):Int):=by rw [zWi (by omega) (by omega)];omega
   have hwb:IntKind.i64.wrap ((b:Int)-(i':Int))=((b-i':Nat):Int):=by rw [zWi (by omega) (by omega)];omega
   have hwl:IntKind.i64.wrap ((b:Int)-(a:Int))=((b-a:Nat):Int):=by rw [zWi (by omega) (by omega)];omega
   have i6:i'-1<n:=by omega
   by_cases c1:i'=b
   ·subst c1
    have hs2:scanSorted (ltC c) d1 i' i=i':=by rw [hs,scanS_stop (fun q=>absurd q (Nat.lt_irrefl _))]
    have c2:¬i'<i':=Nat.lt_irrefl _
    have e:partialIns (ltC c) a i' (k+1) i d1=(d1,true):=by
     rw [partialIns];simp only [hs2];simp
    simp only [nPIS,rPIS,q0,q1,q2,q3,q9,q10,c2,ld,st,ix,List.append_nil,Array.size_setIfInBounds,(EncOk.len (enc:=enc) (z:=iz)),SB,seval,zCa,aOp,zB,aUn,reduceCtorEq,zFr,place,zTu,zRe]
    rw [he,e]
    exact ⟨rfl,rfl⟩
   have c2:i'<b:=by omega
   have i5:i'<n:=by omega
   have c1':¬((i':Int)=(b:Int)):=by omega
   by_cases c3:c d1[i']! d1[i'-1]!<0
   case neg=>
    simp only [nPIS,rPIS,q0,q1,q2,q3,q9,q10,c2,c3,hwi,hwi1,ld,st,ix,List.append_nil,Array.size_setIfInBounds,(EncOk.len (enc:=enc) (z:=iz)),hd1,i5,i6,hc,SB,seval,zCa,aOp,zB,aUn,reduceCtorEq,zFr,place,zTu,zRe]
    exact hM (i'+1) _ _ ⟨by omega,by omega,by exact q0,by exact q1,by exact q2,by exact q3,(by rfl),by exact q10,rfl,by rw [hs,scanS_step c2 (by simp [ltC,c3])]⟩ (by omega)
   clear hM
   have hs2:scanSorted (ltC c) d1 b i=i':=by rw [hs,scanS_stop (fun _=>by simp [ltC,c3])]
   by_cases c4:b-a<50
   ·have c4':((b-a:Nat):Int)<50:=by omega
    simp only [nPIS,rPIS,q0,q1,q2,q3,q9,q10,c2,c3,c1',c4',hwi,hwl,ld,st,ix,List.append_nil,Array.size_setIfInBounds,(EncOk.len (enc:=enc) (z:=iz)),hd1,i5,i6,hc,SB,seval,zCa,aOp,zB,aUn,reduceCtorEq,zFr,place,zTu,zRe]
    have e:partialIns (ltC c) a b (k+1) i d1=(d1,false):=by
     rw [partialIns];simp only [hs2];rw [if_neg c1,if_pos c4]
    rw [he,e]
    exact ⟨rfl,rfl⟩
   have c4':¬((b-a:Nat):Int)<50:=by omega
   rw [partialIns_more hs2 c1 c4] at he
   by_cases hA:2≤i'-a
   ·have hAi:(2:Int)≤((i'-a:Nat):Int):=by omega
    simp only [nPIS,rPIS,q0,q1,q2,q3,q9,q10,c2,c3,c1',c4',hwi,hwl,hwa,hAi,ld,st,ix,List.append_nil,Array.size_setIfInBounds,(EncOk.len (enc:=enc) (z:=iz)),hd1,i5,i6,hc,SB,seval,zCa,aOp,zB,aUn,reduceCtorEq,zFr,place,zTu,zRe]
    refine zRr (S:=Nat×Array α) (fun s=>s.1) (fun s fr H=>s.1<i'∧fr 0=.slice p n cap∧fr 1=.int .i64 (a:Int)∧fr 2=.int .i64 (b:Int)∧fr 3=.func (.func cl) #[] cs.toArray∧fr 9=.int .i64 (i':Int)∧fr 10=.int .i64 (5-((k+1:Nat):Int))∧fr 11=.int .i64 (s.1:Int)∧
     H=DH enc G B s.2++X∧s.2.size=n∧shiftDown (ltC c) (i'-1) (swp d1 i' (i'-1))=shiftDown (ltC c) s.1 s.2) (i'-1,swp d1 i' (i'-1)) ⟨by simp only;omega,by exact q0,by exact q1,by exact q2,by exact q3,by exact q9,by exact q10,(by rfl),by simp [swp],by simp [swp,hd1],rfl⟩ ?_
    rintro ⟨v,dv⟩ frv Hv ⟨v1,v30,v31,v32,v33,v39,v310,v11,rfl,hdv,hev⟩ hV
    simp only at v1 v11 hdv hev
    rw [zRc (lPIS_2.eq_1 iz)]
    cases v with
    | succ v=>
      have iv:v+1<n:=by omega
      have iv1:v<n:=by omega
      have hwv:IntKind.i64.wrap (((v+1:Nat):Int)-1)=(v:Int):=zab (n:=v+1) (by omega) (by omega)
      have cv:(1:Int)≤((v+1:Nat):Int):=by omega
      rw [shiftDown] at hev
      by_cases cv2:c dv[v+1]! dv[v]!<0
      ·rw [if_neg (by simp [ltC,cv2])] at hev
       simp only [nPIS,rPIS,v30,v31,v32,v33,v39,v310,v11,cv,cv2,hwv,ld,st,ix,List.append_nil,Array.size_setIfInBounds,(EncOk.len (enc:=enc) (z:=iz)),hdv,iv,iv1,hc,SB,seval,zCa,aOp,zB,aUn,reduceCtorEq,zFr,place,zTu,zRe]
       exact hV (v,swp dv (v+1) v) _ _ ⟨by simp only;omega,by exact v30,by exact v31,by exact v32,by exact v33,by exact v39,by exact v310,(by rfl),by simp [swp],by simp [swp,hdv],hev⟩ (by simp only;omega)
      ·rw [if_pos (by simp [ltC,cv2])] at hev
       clear hV
       have hfd:fixDownC (ltC c) a i' (swp d1 i' (i'-1))=dv:=by rw [fixDownC,if_pos hA,hev]
       by_cases hB:2≤b-i'
       ·have hBi:(2:Int)≤((b-i':Nat):Int):=by omega
        simp only [nPIS,rPIS,v30,v31,v32,v33,v39,v310,hwb,hBi,hwi1,v11,cv,cv2,hwv,hdv,iv,iv1,hc,ld,st,ix,List.append_nil,Array.size_setIfInBounds,(EncOk.len (enc:=enc) (z:=iz)),SB,seval,zCa,aOp,zB,aUn,reduceCtorEq,zFr,place,zTu,zRe]
        generalize hU:shiftUp (ltC c) b (i'+1) (dv)=U
        refine zRr (S:=Nat×Array α) (fun s=>b+1-s.1) (fun s fr H=>i'+1≤s.1∧s.1≤b∧fr 0=.slice p n cap∧fr 1=.int .i64 (a:Int)∧fr 2=.int .i64 (b:Int)∧fr 3=.func (.func cl) #[] cs.toArray∧fr 9=.int .i64 (i':Int)∧fr 10=.int .i64 (5-((k+1:Nat):Int))∧fr 12=.int .i64 (s.1:Int)∧
         H=DH enc G B s.2++X∧s.2.size=n∧U=shiftUp (ltC c) b s.1 s.2) (i'+1,dv) ⟨by simp only;omega,by simp only;omega,by exact v30,by exact v31,by exact v32,by exact v33,by exact v39,by exact v310,(by rfl),by simp [swp],by simp [swp,hdv],hU.symm⟩ ?_
        rintro ⟨w,dw⟩ frw Hw ⟨w1,w2,w3,w4,w5,w6,w9,w10,w12,rfl,hdw,hew⟩ hW
        simp only at w1 w2 w12 hdw hew
        rw [zRc (lPIS_1.eq_1 iz)]
        unfold shiftUp at hew
        by_cases cw:w<b
        ·have iw:w<n:=by omega
         have iw1:w-1<n:=by omega
         have hww:IntKind.i64.wrap ((w:Int)-1)=((w-1:Nat):Int):=zab (by omega) (by omega)
         have hww1:IntKind.i64.wrap ((w:Int)+1)=((w+1:Nat):Int):=zWn (by omega)
         by_cases cw2:c dw[w]! dw[w-1]!<0
         ·rw [if_pos cw,if_neg (by simp [ltC,cw2])] at hew
          simp only [nPIS,rPIS,w3,w4,w5,w6,w9,w10,w12,cw,cw2,hww,hww1,ld,st,ix,List.append_nil,Array.size_setIfInBounds,(EncOk.len (enc:=enc) (z:=iz)),hdw,iw,iw1,hc,SB,seval,zCa,aOp,zB,aUn,reduceCtorEq,zFr,place,zTu,zRe]
          exact hW (w+1,swp dw w (w-1)) _ _ ⟨by simp only;omega,by simp only;omega,by exact w3,by exact w4,by exact w5,by exact w6,by exact w9,by exact w10,(by rfl),by simp [swp],by simp [swp,hdw],hew⟩ (by simp only;omega)
         ·rw [if_pos cw,if_pos (by simp [ltC,cw2])] at hew
          clear hW
          simp only [nPIS,rPIS,w3,w4,w5,w6,w9,w10,w12,cw,cw2,hww,hww1,ld,st,ix,List.append_nil,Array.size_setIfInBounds,(EncOk.len (enc:=enc) (z:=iz)),hdw,iw,iw1,hc,hwk,SB,seval,zCa,aOp,zB,aUn,reduceCtorEq,zFr,place,zTu,zRe]
          exact hN (k,i',dw) _ _ ⟨by simp only;omega,by simp only;omega,by simp only;omega,by exact w3,by exact w4,by exact w5,by exact w6,by exact w9,(by rfl),by simp,hdw,by rw [he,hfd,fixUpC,if_pos hB,hU,hew]⟩ (by simp only;omega)
        ·rw [if_neg cw] at hew
         clear hW
         simp only [nPIS,rPIS,w3,w4,w5,w6,w9,w10,w12,cw,ld,st,ix,List.append_nil,Array.size_setIfInBounds,(EncOk.len (enc:=enc) (z:=iz)),hwk,SB,seval,zCa,aOp,zB,aUn,reduceCtorEq,zFr,place,zTu,zRe]
         exact hN (k,i',dw) _ _ ⟨by simp only;omega,by simp only;omega,by simp only;omega,by exact w3,by exact w4,by exact w5,by exact w6,by exact w9,(by rfl),by simp,hdw,by rw [he,hfd,fixUpC,if_pos hB,hU,hew]⟩ (by simp only;omega)
       ·have hBi:¬(2:Int)≤((b-i':Nat):Int):=by omega
        simp only [nPIS,rPIS,v30,v31,v32,v33,v39,v310,hwb,hBi,hwk,v11,cv,cv2,hwv,hdv,iv,iv1,hc,ld,st,ix,List.append_nil,Array.size_setIfInBounds,(EncOk.len (enc:=enc) (z:=iz)),SB,seval,zCa,aOp,zB,aUn,reduceCtorEq,zFr,place,zTu,zRe]
        exact hN (k,i',dv) _ _ ⟨by simp only;omega,by simp only;omega,by simp only;omega,by exact v30,by exact v31,by exact v32,by exact v33,by exact v39,(by rfl),by simp [swp],by simp [swp,hdv],by rw [he,hfd,fixUpC,if_neg hB]⟩ (by simp only;omega)
    | zero=>
      have cv:¬(1:Int)≤((0:Nat):Int):=by omega
      rw [shiftDown] at hev
      clear hV
      have hfd:fixDownC (ltC c) a i' (swp d1 i' (i'-1))=dv:=by rw [fixDownC,if_pos hA,hev]
      by_cases hB:2≤b-i'
      ·have hBi:(2:Int)≤((b-i':Nat):Int):=by omega
       simp only [nPIS,rPIS,v30,v31,v32,v33,v39,v310,hwb,hBi,hwi1,v11,cv,ld,st,ix,List.append_nil,Array.size_setIfInBounds,(EncOk.len (enc:=enc) (z:=iz)),SB,seval,zCa,aOp,zB,aUn,reduceCtorEq,zFr,place,zTu,zRe]
       generalize hU:shiftUp (ltC c) b (i'+1) (dv)=U
       refine zRr (S:=Nat×Array α) (fun s=>b+1-s.1) (fun s fr H=>i'+1≤s.1∧s.1≤b∧fr 0=.slice p n cap∧fr 1=.int .i64 (a:Int)∧fr 2=.int .i64 (b:Int)∧fr 3=.func (.func cl) #[] cs.toArray∧fr 9=.int .i64 (i':Int)∧fr 10=.int .i64 (5-((k+1:Nat):Int))∧fr 12=.int .i64 (s.1:Int)∧
        H=DH enc G B s.2++X∧s.2.size=n∧U=shiftUp (ltC c) b s.1 s.2) (i'+1,dv) ⟨by simp only;omega,by simp only;omega,by exact v30,by exact v31,by exact v32,by exact v33,by exact v39,by exact v310,(by rfl),by simp [swp],by simp [swp,hdv],hU.symm⟩ ?_
       rintro ⟨w,dw⟩ frw Hw ⟨w1,w2,w3,w4,w5,w6,w9,w10,w12,rfl,hdw,hew⟩ hW
       simp only at w1 w2 w12 hdw hew
       rw [zRc (lPIS_1.eq_1 iz)]
       unfold shiftUp at hew
       by_cases cw:w<b
       ·have iw:w<n:=by omega
        have iw1:w-1<n:=by omega
        have hww:IntKind.i64.wrap ((w:Int)-1)=((w-1:Nat):Int):=zab (by omega) (by omega)
        have hww1:IntKind.i64.wrap ((w:Int)+1)=((w+1:Nat):Int):=zWn (by omega)
        by_cases cw2:c dw[w]! dw[w-1]!<0
        ·rw [if_pos cw,if_neg (by simp [ltC,cw2])] at hew
         simp only [nPIS,rPIS,w3,w4,w5,w6,w9,w10,w12,cw,cw2,hww,hww1,ld,st,ix,List.append_nil,Array.size_setIfInBounds,(EncOk.len (enc:=enc) (z:=iz)),hdw,iw,iw1,hc,SB,seval,zCa,aOp,zB,aUn,reduceCtorEq,zFr,place,zTu,zRe]
         exact hW (w+1,swp dw w (w-1)) _ _ ⟨by simp only;omega,by simp only;omega,by exact w3,by exact w4,by exact w5,by exact w6,by exact w9,by exact w10,(by rfl),by simp [swp],by simp [swp,hdw],hew⟩ (by simp only;omega)
        ·rw [if_pos cw,if_pos (by simp [ltC,cw2])] at hew
         clear hW
         simp only [nPIS,rPIS,w3,w4,w5,w6,w9,w10,w12,cw,cw2,hww,hww1,ld,st,ix,List.append_nil,Array.size_setIfInBounds,(EncOk.len (enc:=enc) (z:=iz)),hdw,iw,iw1,hc,hwk,SB,seval,zCa,aOp,zB,aUn,reduceCtorEq,zFr,place,zTu,zRe]
         exact hN (k,i',dw) _ _ ⟨by simp only;omega,by simp only;omega,by simp only;omega,by exact w3,by exact w4,by exact w5,by exact w6,by exact w9,(by rfl),by simp,hdw,by rw [he,hfd,fixUpC,if_pos hB,hU,hew]⟩ (by simp only;omega)
       ·rw [if_neg cw] at hew
        clear hW
        simp only [nPIS,rPIS,w3,w4,w5,w6,w9,w10,w12,cw,ld,st,ix,List.append_nil,Array.size_setIfInBounds,(EncOk.len (enc:=enc) (z:=iz)),hwk,SB,seval,zCa,aOp,zB,aUn,reduceCtorEq,zFr,place,zTu,zRe]
        exact hN (k,i',dw) _ _ ⟨by simp only;omega,by simp only;omega,by simp only;omega,by exact w3,by exact w4,by exact w5,by exact w6,by exact w9,(by rfl),by simp,hdw,by rw [he,hfd,fixUpC,if_pos hB,hU,hew]⟩ (by simp only;omega)
      ·have hBi:¬(2:Int)≤((b-i':Nat):Int):=by omega
       simp only [nPIS,rPIS,v30,v31,v32,v33,v39,v310,hwb,hBi,hwk,v11,cv,ld,st,ix,List.append_nil,Array.size_setIfInBounds,(EncOk.len (enc:=enc) (z:=iz)),SB,seval,zCa,aOp,zB,aUn,reduceCtorEq,zFr,place,zTu,zRe]
       exact hN (k,i',dv) _ _ ⟨by simp only;omega,by simp only;omega,by simp only;omega,by exact v30,by exact v31,by exact v32,by exact v33,by exact v39,(by rfl),by simp [swp],by simp [swp,hdv],by rw [he,hfd,fixUpC,if_neg hB]⟩ (by simp only;omega)
   ·have hAi:¬(2:Int)≤((i'-a:Nat):Int):=by omega
    have hfd:fixDownC (ltC c) a i' (swp d1 i' (i'-1))=swp d1 i' (i'-1):=by rw [fixDownC,if_neg hA]
    have hsz:(swp d1 i' (i'-1)).size=n:=by simp [swp,hd1]
    by_cases hB:2≤b-i'
    ·have hBi:(2:Int)≤((b-i':Nat):Int):=by omega
     simp only [nPIS,rPIS,q0,q1,q2,q3,q9,q10,hwb,hBi,hwi1,c2,c3,c1',c4',hwi,hwl,hwa,hAi,hd1,i5,i6,hc,ld,st,ix,List.append_nil,Array.size_setIfInBounds,(EncOk.len (enc:=enc) (z:=iz)),SB,seval,zCa,aOp,zB,aUn,reduceCtorEq,zFr,place,zTu,zRe]
     generalize hU:shiftUp (ltC c) b (i'+1) (swp d1 i' (i'-1))=U
     refine zRr (S:=Nat×Array α) (fun s=>b+1-s.1) (fun s fr H=>i'+1≤s.1∧s.1≤b∧fr 0=.slice p n cap∧fr 1=.int .i64 (a:Int)∧fr 2=.int .i64 (b:Int)∧fr 3=.func (.func cl) #[] cs.toArray∧fr 9=.int .i64 (i':Int)∧fr 10=.int .i64 (5-((k+1:Nat):Int))∧fr 12=.int .i64 (s.1:Int)∧
      H=DH enc G B s.2++X∧s.2.size=n∧U=shiftUp (ltC c) b s.1 s.2) (i'+1,swp d1 i' (i'-1)) ⟨by simp only;omega,by simp only;omega,by exact q0,by exact q1,by exact q2,by exact q3,by exact q9,by exact q10,(by rfl),by simp [swp],by simp [swp,hd1],hU.symm⟩ ?_
     rintro ⟨w,dw⟩ frw Hw ⟨w1,w2,w3,w4,w5,w6,w9,w10,w12,rfl,hdw,hew⟩ hW
     simp only at w1 w2 w12 hdw hew
     rw [zRc (lPIS_1.eq_1 iz)]
     unfold shiftUp at hew
     by_cases cw:w<b
     ·have iw:w<n:=by omega
      have iw1:w-1<n:=by omega
      have hww:IntKind.i64.wrap ((w:Int)-1)=((w-1:Nat):Int):=zab (by omega) (by omega)
      have hww1:IntKind.i64.wrap ((w:Int)+1)=((w+1:Nat):Int):=zWn (by omega)
      by_cases cw2:c dw[w]! dw[w-1]!<0
      ·rw [if_pos cw,if_neg (by simp [ltC,cw2])] at hew
       simp only [nPIS,rPIS,w3,w4,w5,w6,w9,w10,w12,cw,cw2,hww,hww1,ld,st,ix,List.append_nil,Array.size_setIfInBounds,(EncOk.len (enc:=enc) (z:=iz)),hdw,iw,iw1,hc,SB,seval,zCa,aOp,zB,aUn,reduceCtorEq,zFr,place,zTu,zRe]
       exact hW (w+1,swp dw w (w-1)) _ _ ⟨by simp only;omega,by simp only;omega,by exact w3,by exact w4,by exact w5,by exact w6,by exact w9,by exact w10,(by rfl),by simp [swp],by simp [swp,hdw],hew⟩ (by simp only;omega)
      ·rw [if_pos cw,if_pos (by simp [ltC,cw2])] at hew
       clear hW
       simp only [nPIS,rPIS,w3,w4,w5,w6,w9,w10,w12,cw,cw2,hww,hww1,ld,st,ix,List.append_nil,Array.size_setIfInBounds,(EncOk.len (enc:=enc) (z:=iz)),hdw,iw,iw1,hc,hwk,SB,seval,zCa,aOp,zB,aUn,reduceCtorEq,zFr,place,zTu,zRe]
       exact hN (k,i',dw) _ _ ⟨by simp only;omega,by simp only;omega,by simp only;omega,by exact w3,by exact w4,by exact w5,by exact w6,by exact w9,(by rfl),by simp,hdw,by rw [he,hfd,fixUpC,if_pos hB,hU,hew]⟩ (by simp only;omega)
     ·rw [if_neg cw] at hew
      clear hW
      simp only [nPIS,rPIS,w3,w4,w5,w6,w9,w10,w12,cw,ld,st,ix,List.append_nil,Array.size_setIfInBounds,(EncOk.len (enc:=enc) (z:=iz)),hwk,SB,seval,zCa,aOp,zB,aUn,reduceCtorEq,zFr,place,zTu,zRe]
      exact hN (k,i',dw) _ _ ⟨by simp only;omega,by simp only;omega,by simp only;omega,by exact w3,by exact w4,by exact w5,by exact w6,by exact w9,(by rfl),by simp,hdw,by rw [he,hfd,fixUpC,if_pos hB,hU,hew]⟩ (by simp only;omega)
    ·have hBi:¬(2:Int)≤((b-i':Nat):Int):=by omega
     simp only [nPIS,rPIS,q0,q1,q2,q3,q9,q10,hwb,hBi,hwk,c2,c3,c1',c4',hwi,hwl,hwa,hAi,hd1,i5,i6,hc,ld,st,ix,List.append_nil,Array.size_setIfInBounds,(EncOk.len (enc:=enc) (z:=iz)),SB,seval,zCa,aOp,zB,aUn,reduceCtorEq,zFr,place,zTu,zRe]
     exact hN (k,i',swp d1 i' (i'-1)) _ _ ⟨by simp only;omega,by simp only;omega,by simp only;omega,by exact q0,by exact q1,by exact q2,by exact q3,by exact q9,(by rfl),by simp [swp],by simp [swp,hd1],by rw [he,hfd,fixUpC,if_neg hB]⟩ (by simp only;omega)
variable {E:Env} {iz:Ids} [DT E E] [SortAt E iz] {α:Type} [Inhabited α] {enc:α→List Value} [EncOk enc iz]
section
variable {α:Type} {enc:α→List Value} {G X:zH} {B:Nat} {d:Array α} {c:Blk}
theorem cnt_len:(DH enc G B d++X).length=G.length+X.length:=by rw [List.length_append,DH_len]
theorem cnt_get:zG (DH enc G B d++(X++[c])) (G.length+X.length)=c:=by
 rw [←List.append_assoc,←cnt_len (enc:=enc) (B:=B) (d:=d)];exact zHn
theorem cnt_set {c':Blk}:(DH enc G B d++(X++[c])).set (G.length+X.length) c'=DH enc G B d++(X++[c']):=by
 rw [←List.append_assoc,←cnt_len (enc:=enc) (B:=B) (d:=d),set_new0];simp
end
theorem ord_ok {G X:zH} {B lim cap n:Nat} {p:Option Addr} {c:α→α→Int} {cl:FuncId} {cs:List Value} (hp:p=some ⟨B,0,none⟩) (hB:B<G.length) (hl:lim≤B) (hn2:n<2 ^ 61) (hc:∀(mp:Bool) (lim:Nat) (x y:α) (H:zH) (Q:Value→zH→Prop),za0 E mp lim cl (.agg (enc x).toArray::.agg (enc y).toArray::cs) H Q=Q (.int .i64 (c x y)) H) {d:Array α} {a b s:Nat} (hd:d.size=n) (ha:a<n) (hb:b<n) (hs:s<100) :
  ∃x y s':Nat,(x=a∧y=b∨x=b∧y=a)∧s'≤s+1∧∀Q,za0 E false lim iz.ORD [.slice p n cap,.int .i64 (a:Int),.int .i64 (b:Int),.pointer (some ⟨G.length+X.length,0,none⟩),.func (.func cl) #[] cs.toArray] (DH enc G B d++(X++[.cells false [.int .i64 (s:Int)]])) Q =
   Q (.tuple #[.int .i64 (x:Int),.int .i64 (y:Int)]) (DH enc G B d++(X++[.cells false [.int .i64 (s':Int)]])):=by
 have ld:=fun (i:Nat) (X:zH) (d:Array α) (hd:d.size=n) (hi:i<n)=>DH_ld (X:=X) (d:=d) (i:=i) hp hB (EncOk.len (enc:=enc) (z:=iz)) (by omega);have st:=fun (i:Nat) (X:zH) (d:Array α) (hd:d.size=n) (hi:i<n) (y:α)=>DH_st (X:=X) (d:=d) (i:=i) (y:=y) hp hB hl (EncOk.len (enc:=enc) (z:=iz)) (by omega);have ix:=fun (i:Nat) (hi:i<n) c (k:IntKind) (H:zH)=>DH_idx (e:=iz.e) (i:=i) (n:=n) (c:=c) (k:=k) (H:=H) hp hi
 have hw:IntKind.i64.wrap ((s:Int)+1)=((s+1:Nat):Int):=zWn (by omega)
 have hlG:lim≤G.length+X.length:=by omega
 by_cases c1:c d[b]! d[a]!<0
 ·refine ⟨b,a,s+1,.inr ⟨rfl,rfl⟩,Nat.le_refl _,fun Q=>runs (SortAt.ORD (E:=E) (z:=iz)) ?_⟩
  rw [bORD,cORD]
  simp only [nORD,rORD,ld,st,ix,List.append_nil,Array.size_setIfInBounds,(EncOk.len (enc:=enc) (z:=iz)),hd,ha,hb,hc,c1,cnt_get,cnt_set,hw,hlG,SB,seval,zCa,aOp,zB,aUn,reduceCtorEq,zFr,place,zTu,zRe]
 ·refine ⟨a,b,s,.inl ⟨rfl,rfl⟩,by omega,fun Q=>runs (SortAt.ORD (E:=E) (z:=iz)) ?_⟩
  rw [bORD,cORD]
  simp only [nORD,rORD,ld,st,ix,List.append_nil,Array.size_setIfInBounds,(EncOk.len (enc:=enc) (z:=iz)),hd,ha,hb,hc,c1,SB,seval,zCa,aOp,zB,aUn,reduceCtorEq,zFr,place,zTu,zRe]
theorem med_ok {G X:zH} {B lim cap n:Nat} {p:Option Addr} {c:α→α→Int} {cl:FuncId} {cs:List Value} (hp:p=some ⟨B,0,none⟩) (hB:B<G.length) (hl:lim≤B) (hn2:n<2 ^ 61) (hc:∀(mp:Bool) (lim:Nat) (x y:α) (H:zH) (Q:Value→zH→Prop),za0 E mp lim cl (.agg (enc x).toArray::.agg (enc y).toArray::cs) H Q=Q (.int .i64 (c x y)) H) {d:Array α} {a b e s:Nat} (hd:d.size=n) (ha:a<n) (hb:b<n) (he:e<n) (hs:s<90) :
  ∃x s':Nat,(x=a∨x=b∨x=e)∧s'≤s+3∧∀Q,za0 E false lim iz.MED [.slice p n cap,.int .i64 (a:Int),.int .i64 (b:Int),.int .i64 (e:Int),.pointer (some ⟨G.length+X.length,0,none⟩),.func (.func cl) #[] cs.toArray] (DH enc G B d++(X++[.cells false [.int .i64 (s:Int)]])) Q =
   Q (.int .i64 (x:Int)) (DH enc G B d++(X++[.cells false [.int .i64 (s':Int)]])):=by
 obtain ⟨x1,y1,s1,h1,k1,o1⟩:=ord_ok (X:=X) (cap:=cap) (lim:=lim) hp hB hl hn2 hc hd ha hb (show s<100 by omega)
 obtain ⟨x2,y2,s2,h2,k2,o2⟩:=ord_ok (X:=X) (cap:=cap) (lim:=lim) hp hB hl hn2 hc hd (show y1<n by omega) he (show s1<100 by omega)
 obtain ⟨x3,y3,s3,h3,k3,o3⟩:=ord_ok (X:=X) (cap:=cap) (lim:=lim) hp hB hl hn2 hc hd (show x1<n by omega) (show x2<n by omega) (show s2<100 by omega)
 refine ⟨y3,s3,by omega,by omega,fun Q=>runs (SortAt.MED (E:=E) (z:=iz)) ?_⟩
 rw [bMED,cMED]
 simp only [nMED,rMED,o1,o2,o3,SB,seval,zCa,aOp,zB,aUn,reduceCtorEq,zFr,place,zTu,zRe]
theorem meda_ok {G X:zH} {B lim cap n:Nat} {p:Option Addr} {c:α→α→Int} {cl:FuncId} {cs:List Value} (hp:p=some ⟨B,0,none⟩) (hB:B<G.length) (hl:lim≤B) (hn2:n<2 ^ 61) (hc:∀(mp:Bool) (lim:Nat) (x y:α) (H:zH) (Q:Value→zH→Prop),za0 E mp lim cl (.agg (enc x).toArray::.agg (enc y).toArray::cs) H Q=Q (.int .i64 (c x y)) H) {d:Array α} {a s:Nat} (hd:d.size=n) (h0:0<a) (ha:a+1<n) (hs:s<90) :
  ∃x s':Nat,a≤x+1∧x≤a+1∧s'≤s+3∧∀Q,za0 E false lim iz.MEDA [.slice p n cap,.int .i64 (a:Int),.pointer (some ⟨G.length+X.length,0,none⟩),.func (.func cl) #[] cs.toArray] (DH enc G B d++(X++[.cells false [.int .i64 (s:Int)]])) Q =
   Q (.int .i64 (x:Int)) (DH enc G B d++(X++[.cells false [.int .i64 (s':Int)]])):=by
 obtain ⟨x1,s1,h1,k1,o1⟩:=med_ok (X:=X) (cap:=cap) (lim:=lim) (a:=a-1) (b:=a) (e:=a+1) hp hB hl hn2 hc hd (by omega) (by omega) (by omega) hs
 have hw1:IntKind.i64.wrap ((a:Int)-1)=((a-1:Nat):Int):=zab (by omega) (by omega)
 have hw2:IntKind.i64.wrap ((a:Int)+1)=((a+1:Nat):Int):=zWn (by omega)
 refine ⟨x1,s1,by omega,by omega,k1,fun Q=>runs (SortAt.MEDA (E:=E) (z:=iz)) ?_⟩
 rw [bMEDA,cMEDA]
 simp only [nMEDA,rMEDA,hw1,hw2,o1,SB,seval,zCa,aOp,zB,aUn,reduceCtorEq,zFr,place,zTu,zRe]
theorem zWt {m:Int} {k:Nat} (h:m=(k:Int)) (hk:k<2 ^ 62):IntKind.i64.wrap m=(k:Int):=by
 subst h;exact zWi (by omega) (by omega)
theorem tdiv_nat {a b:Nat}:(a:Int).tdiv (b:Int)=((a / b:Nat):Int):=by
 rw [Int.tdiv_eq_ediv_of_nonneg (by omega)];rfl
theorem cho_ok {G X:zH} {B lim cap n:Nat} {p:Option Addr} {c:α→α→Int} {cl:FuncId} {cs:List Value} (hp:p=some ⟨B,0,none⟩) (hB:B<G.length) (hl:lim≤B) (hn2:n<2 ^ 61) (hc:∀(mp:Bool) (lim:Nat) (x y:α) (H:zH) (Q:Value→zH→Prop),za0 E mp lim cl (.agg (enc x).toArray::.agg (enc y).toArray::cs) H Q=Q (.int .i64 (c x y)) H) {d:Array α} {a b:Nat} (hd:d.size=n) (hb:b≤n) (hab:a+12<b) :
  ∃v h s:Nat,a≤v∧v<b∧h≤2∧∀Q,za0 E false lim iz.CHO [.slice p n cap,.int .i64 (a:Int),.int .i64 (b:Int),.func (.func cl) #[] cs.toArray] (DH enc G B d++X) Q =
   Q (.tuple #[.int .i64 (v:Int),.int .i64 (h:Int)]) (DH enc G B d++(X++[.cells false [.int .i64 (s:Int)]])):=by
 obtain ⟨l,rfl⟩:∃l,b=a+l:=⟨b-a,by omega⟩
 have hw0:IntKind.i64.wrap (((a+l:Nat):Int)-(a:Int))=(l:Int):=zWt (by omega) (by omega)
 have hq:(l:Int).tdiv 4=((l / 4:Nat):Int):=tdiv_nat (b:=4)
 have hw1:IntKind.i64.wrap ((l / 4:Nat):Int)=((l / 4:Nat):Int):=zWt rfl (by omega)
 have hw2:IntKind.i64.wrap (((l / 4:Nat):Int)*1)=((l / 4:Nat):Int):=zWt (by omega) (by omega)
 have hw3:IntKind.i64.wrap (((l / 4:Nat):Int)*2)=((l / 4*2:Nat):Int):=zWt (by omega) (by omega)
 have hw4:IntKind.i64.wrap (((l / 4:Nat):Int)*3)=((l / 4*3:Nat):Int):=zWt (by omega) (by omega)
 have hw5:IntKind.i64.wrap ((a:Int)+((l / 4:Nat):Int))=((a+l / 4:Nat):Int):=zWt (by omega) (by omega)
 have hw6:IntKind.i64.wrap ((a:Int)+((l / 4*2:Nat):Int))=((a+l / 4*2:Nat):Int):=zWt (by omega) (by omega)
 have hw7:IntKind.i64.wrap ((a:Int)+((l / 4*3:Nat):Int))=((a+l / 4*3:Nat):Int):=zWt (by omega) (by omega)
 have c8:(8:Int)≤(l:Int):=by omega
 have key:∀(x y z s:Nat),a≤x→x<a+l→a≤y→y<a+l→a≤z→z<a+l→s<80→∃v s':Nat,a≤v∧v<a+l∧∀Q,za0 E false lim iz.MED [.slice p n cap,.int .i64 (x:Int),.int .i64 (y:Int),.int .i64 (z:Int),.pointer (some ⟨G.length+X.length,0,none⟩),.func (.func cl) #[] cs.toArray] (DH enc G B d++(X++[.cells false [.int .i64 (s:Int)]])) Q =
   Q (.int .i64 (v:Int)) (DH enc G B d++(X++[.cells false [.int .i64 (s':Int)]])):=by
  intro x y z s q1 q2 q3 q4 q5 q6 q7
  obtain ⟨v,s',m1,_,m2⟩:=med_ok (X:=X) (cap:=cap) (lim:=lim) (a:=x) (b:=y) (e:=z) hp hB hl hn2 hc hd (by omega) (by omega) (by omega) (show s<90 by omega)
  exact ⟨v,s',by omega,by omega,m2⟩
 have fin:∀(v s':Nat) ,∃h:Nat,h≤2∧((s'=0∧h=1)∨(¬(s':Int)=0∧s'=12∧h=2)∨(¬(s':Int)=0∧¬(s':Int)=12∧h=0)):=by
  intro v s'
  by_cases z:s'=0
  ·exact ⟨1,by omega,.inl ⟨z,rfl⟩⟩
  ·by_cases z2:s'=12
   ·exact ⟨2,by omega,.inr (.inl ⟨by omega,z2,rfl⟩)⟩
   ·exact ⟨0,by omega,.inr (.inr ⟨by omega,by omega,rfl⟩)⟩
 by_cases c50:50≤l
 ·have c50':(50:Int)≤(l:Int):=by omega
  obtain ⟨x1,s1,h1,h2,h3,o1⟩:=meda_ok (X:=X) (cap:=cap) (lim:=lim) (a:=a+l / 4) (s:=0) hp hB hl hn2 hc hd (by omega) (by omega) (by omega)
  obtain ⟨x2,s2,h4,h5,h6,o2⟩:=meda_ok (X:=X) (cap:=cap) (lim:=lim) (a:=a+l / 4*2) (s:=s1) hp hB hl hn2 hc hd (by omega) (by omega) (by omega)
  obtain ⟨x3,s3,h7,h8,h9,o3⟩:=meda_ok (X:=X) (cap:=cap) (lim:=lim) (a:=a+l / 4*3) (s:=s2) hp hB hl hn2 hc hd (by omega) (by omega) (by omega)
  obtain ⟨v,s',m1,m2,om⟩:=key x1 x2 x3 s3 (by omega) (by omega) (by omega) (by omega) (by omega) (by omega) (by omega)
  obtain ⟨h,hh,hc'⟩:=fin v s'
  refine ⟨v,h,s',m1,m2,hh,fun Q=>runs (SortAt.CHO (E:=E) (z:=iz)) ?_⟩
  rw [bCHO,cCHO]
  simp only [show ((0:Nat):Int)=0 from rfl] at o1
  rcases hc' with ⟨rfl,rfl⟩ | ⟨z1,rfl,rfl⟩ | ⟨z1,z2,rfl⟩
  ·simp only [nCHO,rCHO,hw0,hq,hw1,hw2,hw3,hw4,hw5,hw6,hw7,c8,c50',o1,o2,o3,om,cnt_get,cnt_set,DH_len,SB,seval,zCa,aOp,zB,aUn,reduceCtorEq,zFr,place,zTu,zRe]
  ·simp only [nCHO,rCHO,hw0,hq,hw1,hw2,hw3,hw4,hw5,hw6,hw7,c8,c50',o1,o2,o3,om,cnt_get,cnt_set,DH_len,SB,seval,zCa,aOp,zB,aUn,reduceCtorEq,zFr,place,zTu,zRe]
  ·simp only [nCHO,rCHO,hw0,hq,hw1,hw2,hw3,hw4,hw5,hw6,hw7,c8,c50',o1,o2,o3,om,z1,z2,cnt_get,cnt_set,DH_len,SB,seval,zCa,aOp,zB,aUn,reduceCtorEq,zFr,place,zTu,zRe]
 ·have c50':¬(50:Int)≤(l:Int):=by omega
  obtain ⟨v,s',m1,m2,om⟩:=key (a+l / 4) (a+l / 4*2) (a+l / 4*3) 0 (by omega) (by omega) (by omega) (by omega) (by omega) (by omega) (by omega)
  obtain ⟨h,hh,hc'⟩:=fin v s'
  refine ⟨v,h,s',m1,m2,hh,fun Q=>runs (SortAt.CHO (E:=E) (z:=iz)) ?_⟩
  rw [bCHO,cCHO]
  simp only [show ((0:Nat):Int)=0 from rfl] at om
  rcases hc' with ⟨rfl,rfl⟩ | ⟨z1,rfl,rfl⟩ | ⟨z1,z2,rfl⟩
  ·simp only [nCHO,rCHO,hw0,hq,hw1,hw2,hw3,hw4,hw5,hw6,hw7,c8,c50',om,cnt_get,cnt_set,DH_len,SB,seval,zCa,aOp,zB,aUn,reduceCtorEq,zFr,place,zTu,zRe]
  ·simp only [nCHO,rCHO,hw0,hq,hw1,hw2,hw3,hw4,hw5,hw6,hw7,c8,c50',om,cnt_get,cnt_set,DH_len,SB,seval,zCa,aOp,zB,aUn,reduceCtorEq,zFr,place,zTu,zRe]
  ·simp only [nCHO,rCHO,hw0,hq,hw1,hw2,hw3,hw4,hw5,hw6,hw7,c8,c50',om,z1,z2,cnt_get,cnt_set,DH_len,SB,seval,zCa,aOp,zB,aUn,reduceCtorEq,zFr,place,zTu,zRe]
variable {E:Env} {iz:Ids} [DT E E] [SortAt E iz] {α:Type} [Inhabited α] {enc:α→List Value} [EncOk enc iz]
def len8:List UInt8:=[0,1,2,2,3,3,3,3,4,4,4,4,4,4,4,4,5,5,5,5,5,5,5,5,5,5,5,5,5,5,5,5,6,6,6,6,6,6,6,6,6,6,6,6,6,6,6,6,6,6,6,6,6,6,6,6,6,6,6,6,6,6,6,6,7,7,7,7,7,7,7,7,7,7,7,7,7,7,7,7,7,7,7,7,7,7,7,7,7,7,7,7,7,7,7,7,7,7,7,7,7,7,7,7,7,7,7,7,7,7,7,7,7,7,7,7,7,7,7,7,7,7,7,7,7,7,7,7,8,8,8,8,8,8,8,8,8,8,8,8,8,8,8,8,8,8,8,8,8,8,8,8,8,8,8,8,8,8,8,8,8,8,8,8,8,8,8,8,8,8,8,8,8,8,8,8,8,8,8,8,8,8,8,8,8,8,8,8,8,8,8,8,8,8,8,8,8,8,8,8,8,8,8,8,8,8,8,8,8,8,8,8,8,8,8,8,8,8,8,8,8,8,8,8,8,8,8,8,8,8,8,8,8,8,8,8,8,8,8,8,8,8,8,8,8,8,8,8,8,8,8,8,8,8,8,8]
theorem len8_len:len8.length=256:=by decide
theorem len8_ok:∀m,m<256→m<2 ^ (len8.getD m 0).toNat∧(m=0∨2 ^ (len8.getD m 0).toNat≤2*m)∧(len8.getD m 0).toNat≤8:=by decide +kernel
theorem len8_get {m:Nat} (h:m<256):len8[m]? = some (len8.getD m 0):=by
 rw [List.getD_eq_getElem?_getD,List.getElem?_eq_getElem (by rw [len8_len];exact h)];rfl
theorem wrap64 {n:Int}:IntKind.u64.wrap n=n % 2 ^ 64:=by simp [IntKind.wrap,IntKind.bits,IntKind.signed]
theorem wrap8 {n:Int}:IntKind.u8.wrap n=n % 2 ^ 8:=by simp [IntKind.wrap,IntKind.bits,IntKind.signed]
theorem fd8 {a:Int}:a.fdiv (2 ^ min (Int.toNat 8) IntKind.u64.bits)=a / 256:=by
 rw [show (2:Int) ^ min (Int.toNat 8) IntKind.u64.bits=256 from by decide,Int.fdiv_eq_ediv_of_nonneg _ (by decide)]
theorem len_ok {x:Nat} (hx:x<65536) (h0:0<x):∃L:Nat,x<2 ^ L∧2 ^ L≤2*x∧L≤16∧∀(mp:Bool) (lim:Nat) (H:zH) (Q:Value→zH→Prop),za0 E mp lim iz.LEN [.int .u64 (x:Int)] H Q=Q (.int .i64 (L:Int)) H:=by
 have key:∃L:Nat,x<2 ^ L∧2 ^ L≤2*x∧L≤16∧∀(mp:Bool) (lim:Nat) (H:zH) (Q:Value→zH→Prop),za0 E mp lim iz.LEN64 [.int .u64 (x:Int)] H Q=Q (.int .i64 (L:Int)) H:=by
  have c32:¬(4294967296:Int)≤(x:Int):=by omega
  have c16:¬(65536:Int)≤(x:Int):=by omega
  by_cases c8:256≤x
  ·obtain ⟨h1,h2,h3⟩:=len8_ok (x / 256) (by omega)
   have hg:=len8_get (m:=x / 256) (by omega)
   generalize hb:len8.getD (x / 256) 0=b at h1 h2 h3 hg
   have h2':2 ^ b.toNat≤2*(x / 256):=by rcases h2 with h | h<;>omega
   have e:(2:Nat) ^ (8+b.toNat)=256*2 ^ b.toNat:=by rw [Nat.pow_add]
   refine ⟨8+b.toNat,by rw [e];omega,by rw [e];omega,by omega,fun mp lim H Q=>?_⟩
   refine pcG (SortAt.LEN64 (E:=E) (z:=iz)) rfl ?_
   rw [bLEN64,cLEN64]
   unfold len8 at hg
   have c8':(256:Int)≤(x:Int):=by omega
   have w1:IntKind.u64.wrap ((x:Int) / 256)=((x / 256:Nat):Int):=by rw [wrap64];omega
   have w2:IntKind.u8.wrap ((x:Int) / 256)=((x / 256:Nat):Int):=by rw [wrap8];omega
   have w3:IntKind.i64.wrap ((b.toNat:Nat):Int)=(b.toNat:Int):=zWt rfl (by omega)
   have w4:IntKind.i64.wrap (8+(b.toNat:Int))=((8+b.toNat:Nat):Int):=zWt (by omega) (by omega)
   have w5:IntKind.i64.wrap 8=8:=by decide
   have w6:(0:Int)≤((x / 256:Nat):Int):=by omega
   simp only [nLEN64,rLEN64,c32,c16,c8',fd8,w1,w2,w3,w4,w5,w6,hg,Int.toNat_natCast,Int.zero_add,SB,Nat.reduceLT,zCa,aOp,Nat.reduceEqDiff,zB,aUn,reduceCtorEq,zFr,place,zTu,Nat.reduceAdd,Nat.reduceLeDiff,zRe,Int.reduceEq,Int.reduceLT,Int.reduceLE]
  ·obtain ⟨h1,h2,h3⟩:=len8_ok x (by omega)
   have hg:=len8_get (m:=x) (by omega)
   generalize hb:len8.getD x 0=b at h1 h2 h3 hg
   refine ⟨b.toNat,h1,by rcases h2 with h | h<;>omega,by omega,fun mp lim H Q=>?_⟩
   refine pcG (SortAt.LEN64 (E:=E) (z:=iz)) rfl ?_
   rw [bLEN64,cLEN64]
   unfold len8 at hg
   have c8':¬(256:Int)≤(x:Int):=by omega
   have w2:IntKind.u8.wrap (x:Int)=(x:Int):=by rw [wrap8];omega
   have w3:IntKind.i64.wrap ((b.toNat:Nat):Int)=(b.toNat:Int):=zWt rfl (by omega)
   have w6:(0:Int)≤(x:Int):=by omega
   simp only [nLEN64,rLEN64,c32,c16,c8',w2,w3,w6,hg,Int.toNat_natCast,Int.zero_add,SB,Nat.reduceLT,zCa,aOp,Nat.reduceEqDiff,zB,aUn,reduceCtorEq,zFr,place,zTu,Nat.reduceAdd,Nat.reduceLeDiff,zRe,Int.reduceEq,Int.reduceLT,Int.reduceLE]
 obtain ⟨L,h1,h2,h3,h4⟩:=key
 refine ⟨L,h1,h2,h3,fun mp lim H Q=>?_⟩
 refine pcG (SortAt.LEN (E:=E) (z:=iz)) rfl ?_
 rw [bLEN,cLEN]
 simp only [nLEN,rLEN,h4,SB,Nat.reduceLT,zCa,aOp,Nat.reduceEqDiff,zB,aUn,reduceCtorEq,zFr,place,zTu,Nat.reduceAdd,Nat.reduceLeDiff,zRe,Int.reduceEq,Int.reduceLT,Int.reduceLE]
theorem npt_ok {x:Nat} (hx:x<65536) (h0:0<x):∃m:Nat,0<m∧m≤2*x∧∀(mp:Bool) (lim:Nat) (H:zH) (Q:Value→zH→Prop),za0 E mp lim iz.NPT [.int .i64 (x:Int)] H Q=Q (.int .u64 (m:Int)) H:=by
 obtain ⟨L,h1,h2,h3,h4⟩:=len_ok (E:=E) (iz:=iz) hx h0
 refine ⟨2 ^ L,Nat.pow_pos (by decide),h2,fun mp lim H Q=>?_⟩
 refine pcG (SortAt.NPT (E:=E) (z:=iz)) rfl ?_
 rw [bNPT,cNPT]
 have w1:IntKind.u64.wrap (x:Int)=(x:Int):=by rw [wrap64];omega
 have w2:min L IntKind.u64.bits=L:=by simp only [IntKind.bits];omega
 have hp:(2:Nat) ^ L<2 ^ 18:=by omega
 have w3:IntKind.u64.wrap (1*2 ^ L)=((2 ^ L:Nat):Int):=by
  rw [wrap64,Int.one_mul]
  have:((2:Int) ^ L)=((2 ^ L:Nat):Int):=by simp
  rw [this];omega
 have c0:¬(L:Int)<0:=by omega
 simp only [nNPT,rNPT,w1,h4,c0,Int.toNat_natCast,w2,w3,SB,Nat.reduceLT,zCa,aOp,Nat.reduceEqDiff,zB,aUn,reduceCtorEq,zFr,place,zTu,Nat.reduceAdd,Nat.reduceLeDiff,zRe,Int.reduceEq,Int.reduceLT,Int.reduceLE]
theorem xor_ok {α:Type} {enc:α→List Value} {G X:zH} {B lim:Nat} {d:Array α} {s:Int} (hl:lim≤B) (hB:B<G.length) :
  ∃s':Int,(0≤s'∧s'<2 ^ 64)∧∀Q,za0 E false lim iz.XOR [.pointer (some ⟨G.length+X.length,0,none⟩)] (DH enc G B d++(X++[.cells false [.int .u64 s]])) Q=Q (.int .u64 s') (DH enc G B d++(X++[.cells false [.int .u64 s']])):=by
 have hlG:lim≤G.length+X.length:=by omega
 have hw:∀m:Int,0≤IntKind.u64.wrap m∧IntKind.u64.wrap m<2 ^ 64:=by intro m;rw [wrap64];omega
 have key:za0 E false lim iz.XOR [.pointer (some ⟨G.length+X.length,0,none⟩)] (DH enc G B d++(X++[.cells false [.int .u64 s]])) fun v H'=>∃s',(0≤s'∧s'<2 ^ 64)∧v=.int .u64 s'∧H'=DH enc G B d++(X++[.cells false [.int .u64 s']]):=by
  rw [zc2 (E:=E) (g:=iz.XOR) (af:=(aXOR iz)) ((SortAt.XOR (E:=E) (z:=iz)).2.2 _) (SortAt.XOR (E:=E) (z:=iz)).1 (SortAt.XOR (E:=E) (z:=iz)).2.1 rfl]
  rw [bXOR,cXOR]
  simp only [nXOR,rXOR,cnt_get,cnt_set,hlG,List.append_nil,SB,Nat.reduceLT,zCa,aOp,Nat.reduceEqDiff,zB,aUn,reduceCtorEq,zFr,place,zTu,Nat.reduceAdd,Nat.reduceLeDiff,zRe,Int.reduceEq,Int.reduceLT,Int.reduceLE]
  exact ⟨_,hw _,rfl,rfl⟩
 obtain ⟨k,v,H',hx,s',h1,rfl,rfl⟩:=oneG (SortAt.dt (E:=E) (z:=iz)) key
 exact ⟨s',h1,fun Q=>za0.det hx⟩
theorem and_le {a b:Int} (hb:0≤b∧b<2 ^ 64):0≤IntKind.u64.wrap ((BitVec.ofInt IntKind.u64.bits a &&& BitVec.ofInt IntKind.u64.bits b).toNat:Int)∧IntKind.u64.wrap ((BitVec.ofInt IntKind.u64.bits a &&& BitVec.ofInt IntKind.u64.bits b).toNat:Int)≤b:=by
 rw [wrap64]
 have h1:(BitVec.ofInt IntKind.u64.bits a &&& BitVec.ofInt IntKind.u64.bits b).toNat≤(BitVec.ofInt IntKind.u64.bits b).toNat:=by
  rw [BitVec.toNat_and];exact Nat.and_le_right
 have h2:((BitVec.ofInt IntKind.u64.bits b).toNat:Int)=b:=by
  rw [BitVec.toNat_ofInt]
  simp only [IntKind.bits]
  omega
 omega
variable {E:Env} {iz:Ids} [DT E E] [SortAt E iz] {α:Type} [Inhabited α] {enc:α→List Value} [EncOk enc iz]
theorem brk_ok {G X:zH} {B lim cap n:Nat} {p:Option Addr} {c:α→α→Int} {cl:FuncId} {cs:List Value} (hp:p=some ⟨B,0,none⟩) (hB:B<G.length) (hl:lim≤B) (hn2:n<2 ^ 61) (hc:∀(mp:Bool) (lim:Nat) (x y:α) (H:zH) (Q:Value→zH→Prop),za0 E mp lim cl (.agg (enc x).toArray::.agg (enc y).toArray::cs) H Q=Q (.int .i64 (c x y)) H) {d:Array α} {a b:Nat} (hd:d.size=n) (hb:b≤n) (hab:a+12<b) (hn3:n<65536) :
  ∃d' s,d'.size=n∧PermIn a b d d'∧∀Q,za0 E false lim iz.BRK [.slice p n cap,.int .i64 (a:Int),.int .i64 (b:Int),.func (.func cl) #[] cs.toArray] (DH enc G B d++X) Q=Q (.tuple #[]) (DH enc G B d'++(X++[.cells false [.int .u64 s]])):=by
 have key:za0 E false lim iz.BRK [.slice p n cap,.int .i64 (a:Int),.int .i64 (b:Int),.func (.func cl) #[] cs.toArray] (DH enc G B d++X) fun v H'=>∃d' s,d'.size=n∧PermIn a b d d'∧v=.tuple #[]∧H'=DH enc G B d'++(X++[.cells false [.int .u64 s]]):=by
  rw [zc2 (E:=E) (g:=iz.BRK) (af:=(aBRK iz)) ((SortAt.BRK (E:=E) (z:=iz)).2.2 _) (SortAt.BRK (E:=E) (z:=iz)).1 (SortAt.BRK (E:=E) (z:=iz)).2.1 rfl]
  rw [bBRK,cBRK]
  have ld:=fun (i:Nat) (X:zH) (d:Array α) (hd:d.size=n) (hi:i<n)=>DH_ld (X:=X) (d:=d) (i:=i) hp hB (EncOk.len (enc:=enc) (z:=iz)) (by omega);have st:=fun (i:Nat) (X:zH) (d:Array α) (hd:d.size=n) (hi:i<n) (y:α)=>DH_st (X:=X) (d:=d) (i:=i) (y:=y) hp hB hl (EncOk.len (enc:=enc) (z:=iz)) (by omega);have ix:=fun (i:Nat) (hi:i<n) c (k:IntKind) (H:zH)=>DH_idx (e:=iz.e) (i:=i) (n:=n) (c:=c) (k:=k) (H:=H) hp hi
  have hlG:lim≤G.length+X.length:=by omega
  obtain ⟨l,rfl⟩:∃l,b=a+l:=⟨b-a,by omega⟩
  obtain ⟨m,hm0,hm1,hnpt⟩:=npt_ok (E:=E) (iz:=iz) (x:=l) (by omega) (by omega)
  have hw0:IntKind.i64.wrap (((a+l:Nat):Int)-(a:Int))=(l:Int):=zWt (by omega) (by omega)
  have hq:(l:Int).tdiv 4=((l / 4:Nat):Int):=tdiv_nat (b:=4)
  have hw1:IntKind.i64.wrap ((l / 4:Nat):Int)=((l / 4:Nat):Int):=zWt rfl (by omega)
  have hw3:IntKind.i64.wrap (((l / 4:Nat):Int)*2)=((l / 4*2:Nat):Int):=zWt (by omega) (by omega)
  have hw6:IntKind.i64.wrap ((a:Int)+((l / 4*2:Nat):Int))=((a+l / 4*2:Nat):Int):=zWt (by omega) (by omega)
  have hw7:IntKind.i64.wrap (((a+l / 4*2:Nat):Int)-1)=((a+l / 4*2-1:Nat):Int):=zWt (by omega) (by omega)
  have hw8:IntKind.i64.wrap (((a+l / 4*2:Nat):Int)+1)=((a+l / 4*2+1:Nat):Int):=zWt (by omega) (by omega)
  have hwm:IntKind.u64.wrap ((m:Int)-1)=((m-1:Nat):Int):=by rw [wrap64];omega
  have c8:(8:Int)≤(l:Int):=by omega
  simp only [nBRK,rBRK,hw0,hq,hw1,hw3,hw6,hw7,c8,hnpt,cnt_get,cnt_set,DH_len,hlG,SB,seval,zCa,aOp,zB,aUn,reduceCtorEq,zFr,place,zTu,zRe]
  refine zRr (S:=Nat×Array α×Int) (fun s=>a+l+5-s.1) (fun s fr H=>a<s.1∧s.1≤a+l / 4*2+2∧fr 0=.slice p n cap∧fr 1=.int .i64 (a:Int)∧fr 8=.int .i64 (l:Int)∧fr 9=.pointer (some ⟨G.length+X.length,0,none⟩)∧fr 10=.int .u64 (m:Int)∧fr 11=.int .i64 (s.1:Int)∧
   H=DH enc G B s.2.1++(X++[.cells false [.int .u64 s.2.2]])∧s.2.1.size=n∧PermIn a (a+l) d s.2.1) (a+l / 4*2-1,d,IntKind.u64.wrap (l:Int)) ⟨by simp only;omega,by simp only;omega,(by rfl),(by rfl),(by rfl),(by rfl),(by rfl),(by rfl),rfl,hd,permIn_refl _ _ _⟩ ?_
  rintro ⟨i,d1,s⟩ fr H ⟨h1,h2,g0,g1,g8,g9,g10,g11,rfl,hd1,hP⟩ hN
  simp only at h1 h2 g11 hd1 hP
  rw [zRc (lBRK_1.eq_1 iz)]
  by_cases c1:i≤a+(l / 4*2+1)
  ·obtain ⟨s',_,hx⟩:=xor_ok (E:=E) (iz:=iz) (X:=X) (d:=d1) (s:=s) (enc:=enc) hl hB
   have hA:=and_le (a:=s') (b:=((m-1:Nat):Int)) (by omega)
   generalize hr:IntKind.u64.wrap ((BitVec.ofInt IntKind.u64.bits s' &&& BitVec.ofInt IntKind.u64.bits ((m-1:Nat):Int)).toNat:Int)=r at hA
   obtain ⟨r',rfl⟩:∃r':Nat,r=(r':Int):=⟨r.toNat,by omega⟩
   have hwr:IntKind.i64.wrap (r':Int)=(r':Int):=zWt rfl (by omega)
   have hwi:IntKind.i64.wrap ((i:Int)+1)=((i+1:Nat):Int):=zWn (by omega)
   have i1:i<n:=by omega
   by_cases c2:l≤r'
   ·have hw9:IntKind.i64.wrap ((r':Int)-(l:Int))=((r'-l:Nat):Int):=zWt (by omega) (by omega)
    have hw10:IntKind.i64.wrap ((a:Int)+((r'-l:Nat):Int))=((a+(r'-l):Nat):Int):=zWt (by omega) (by omega)
    have i2:a+(r'-l)<n:=by omega
    simp only [nBRK,rBRK,g0,g1,g8,g9,g10,g11,hw0,hq,hw1,hw3,hw6,hw8,c1,hx,hwm,hr,hwr,c2,hw9,hw10,ld,st,ix,List.append_nil,Array.size_setIfInBounds,(EncOk.len (enc:=enc) (z:=iz)),hd1,i1,i2,hwi,SB,seval,zCa,aOp,zB,aUn,reduceCtorEq,zFr,place,zTu,zRe]
    exact hN (i+1,swp d1 i (a+(r'-l)),s') _ _ ⟨by simp only;omega,by simp only;omega,by exact g0,by exact g1,by exact g8,by exact g9,by exact g10,(by rfl),by simp [swp],by simp [swp,hd1],permIn_trans _ _ _ _ _ hP (swp_permIn _ _ _ _ _ (by omega) (by omega) (by omega) (by omega) (by omega))⟩ (by simp only;omega)
   ·have hw10:IntKind.i64.wrap ((a:Int)+(r':Int))=((a+r':Nat):Int):=zWt (by omega) (by omega)
    have i2:a+r'<n:=by omega
    simp only [nBRK,rBRK,g0,g1,g8,g9,g10,g11,hw0,hq,hw1,hw3,hw6,hw8,c1,hx,hwm,hr,hwr,c2,hw10,ld,st,ix,List.append_nil,Array.size_setIfInBounds,(EncOk.len (enc:=enc) (z:=iz)),hd1,i1,i2,hwi,SB,seval,zCa,aOp,zB,aUn,reduceCtorEq,zFr,place,zTu,zRe]
    exact hN (i+1,swp d1 i (a+r'),s') _ _ ⟨by simp only;omega,by simp only;omega,by exact g0,by exact g1,by exact g8,by exact g9,by exact g10,(by rfl),by simp [swp],by simp [swp,hd1],permIn_trans _ _ _ _ _ hP (swp_permIn _ _ _ _ _ (by omega) (by omega) (by omega) (by omega) (by omega))⟩ (by simp only;omega)
  ·clear hN
   simp only [nBRK,rBRK,g0,g1,g8,g9,g10,g11,hw0,hq,hw1,hw3,hw6,hw8,c1,SB,seval,zCa,aOp,zB,aUn,reduceCtorEq,zFr,place,zTu,zRe]
   exact ⟨d1,s,hd1,hP,rfl⟩
 obtain ⟨k,v,H',hx,d',s,h1,h2,rfl,rfl⟩:=oneG (SortAt.dt (E:=E) (z:=iz)) key
 exact ⟨d',s,h1,h2,fun Q=>za0.det hx⟩
end Go.AM.Srt

