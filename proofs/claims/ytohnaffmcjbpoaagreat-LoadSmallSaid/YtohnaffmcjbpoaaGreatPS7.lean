/-
  Joined texts, 7 of 10. A part of the claim that the last text states.
-/
import Derived.Test.YtohnaffmcjbpoaaGreatPS6
set_option linter.unusedVariables false
set_option linter.unusedSimpArgs false
set_option linter.defProp false
set_option linter.unusedSectionVars false
set_option maxRecDepth 100000
set_option maxHeartbeats 4000000
namespace Go.Proofs.YtohnaffmcjbpoaaGreat.Fn
open Go.AM Go.AM.Sym Go.Net Go.Flow
def WE (to dl:Int) (PL:List (Int×Int)) (s:List Flow.Src):List (Int×Int):=s.foldl (fun PL x=>UA PL (x.pl,x.rd) (decide (x.pl≠to)&&decide (x.rd<=dl))) PL
theorem Nrr {to dl:Int} {PL:List (Int×Int)} {s:List Flow.Src} {x:Flow.Src}:WE to dl PL (s++[x])=UA (WE to dl PL s) (x.pl,x.rd) (decide (x.pl≠to)&&decide (x.rd<=dl)):=by unfold WE;rw [List.foldl_append];rfl
theorem Ma {PL:List (Int×Int)} {p:Int×Int} {w:Bool}:(UA PL p w).length<=PL.length+1:=by unfold UA;split<;>simp
theorem Ndj {to dl:Int}:∀{s:List Flow.Src} {PL:List (Int×Int)},(WE to dl PL s).length<=PL.length+s.length
 | [],PL=>by simp [WE]
 | x::s,PL=>by
   have ih:=Ndj (to:=to) (dl:=dl) (s:=s) (PL:=UA PL (x.pl,x.rd) (decide (x.pl≠to)&&decide (x.rd<=dl)))
   have:=Ma (PL:=PL) (p:=(x.pl,x.rd)) (w:=decide (x.pl≠to)&&decide (x.rd<=dl))
   show (WE to dl (UA PL (x.pl,x.rd) (decide (x.pl≠to)&&decide (x.rd<=dl))) s).length<=_
   simp only [Nj];omega
theorem WZ {α:Type} {enc:α->List Value} {e:Nat} {H G:NB} {q:Option Addr} {T:List α} (h:Sl H enc e q T) (d:∀a,q=some a->T≠[]->NC G a.block=NC H a.block):Sl G enc e q T:=by
 cases hp:q with
 | none=>rw [hp] at h;exact h
 | some a=>
   have e1:=d a hp
   rw [hp] at h
   refine ⟨h.1,fun b=>?_⟩
   obtain ⟨ro,c,k1,k2⟩:=h.2 b
   exact ⟨ro,c,by rw [e1 b];exact k1,k2⟩
structure BF (fr:Nat->Value) (ps:Option Addr) (n cs:Nat) (dl:Int) (Bn Bt Bg Bf:Nat):Prop where
 f1:fr 1=.slice ps n cs
 f3:fr 3=Vi dl
 f4:fr 4=Vp Bn
 f6:fr 6=Vp Bt
 f9:fr 9=Vp Bg
 f10:fr 10=Vp Bf
theorem Nzj [OB] {lim A M Bn Bt Bg Bf:Nat} {X:List Nat} {G:NB} {fr:Nat->Value} {ps pp:Option Addr} {s:List Flow.Src} {cs cp:Nat} {to dl:Int} {vs:List Value} {PL:List (Int×Int)} {K:List AItem} {Q:Value->NB->Prop}
  (I:BF fr ps s.length cs dl Bn Bt Bg Bf) (h:PS A M X G pp cp vs PL) (v:lim<=M) (J:vs.length=6) (hl:PL.length+s.length<2 ^ 29)
  (U:NC G Bg=Vc [Vp A]) (W:NC G Bt=Vc [Vi to]) (H:Bg∈X/\Bt∈X/\∀a,ps=some a->s≠[]->a.block∈X) (hs:Sl G encS 3 ps s)
  (g:fr 25=.slice ps s.length cs) (e:fr 26=Vi s.length) (d:fr 27=Vi 0)
  (V:∀fr' G' N C,BF fr' ps s.length cs dl Bn Bt Bg Bf->PS A M X G' N C vs (WE to dl PL s)->(∀b∈X,NC G' b=NC G b)->G.length<=G'.length->PI E a39 lim K fr' G' Q) :
  PI E a39 lim (.code (.loop Nux)::.inBlock 0::K) fr G Q:=by
 refine NM (fun z:Nat×Option Addr×Nat=>s.length-z.1) (fun z fr G'=>z.1<=s.length/\BF fr ps s.length cs dl Bn Bt Bg Bf/\fr 25=.slice ps s.length cs/\fr 26=Vi s.length/\fr 27=Vi z.1/\PS A M X G' z.2.1 z.2.2 vs (WE to dl PL (s.take z.1))/\(∀b∈X,NC G' b=NC G b)/\G.length<=G'.length) (0,pp,cp)
  ⟨Nv _,I,g,e,d,h,fun b _=>rfl,Ng _⟩ ?_
 rintro ⟨i,y,x⟩ fr G' ⟨hi,I,g,e,d,f,q,aa⟩ F
 simp only at hi d f
 obtain ⟨f1,f3,f4,f6,f9,f10⟩:=I
 rw [NQ Nux.eq_1]
 refine NI ?_
 by_cases l:i<s.length
 case neg=>
  obtain rfl:i=s.length:=by omega
  rw [Of] at f
  simp only [n39,e,d,l,SB,seval,NJ,NF]
  refine V _ _ y x ⟨f1,f3,f4,f6,f9,f10⟩ ?_ ?_ (by simp;omega)
  ·rw [Na];exact f
  ·rw [Na];exact q
 have S:=WZ hs fun a Y hn=>q _ (H.2.2 a Y hn)
 have L:=fun Z=>(S.app Z).loadCells OI l
 have P:=QN S l rfl
 have r:=fun Z=>(NZ.refl.app (X:=Z)).cells ((q _ H.1).trans U)
 have t:=fun Z=>(NZ.refl.app (X:=Z)).cells ((q _ H.2.1).trans W)
 have O:IntKind.i64.wrap ((i:Int)+1)=((i+1:Nat):Int):=NS (by omega)
 have T:=ND f.hdr
 have n:lim<=G'.length:=by have:=f.ma;omega
 have w:WE to dl PL (s.take (i+1))=UA (WE to dl PL (s.take i)) ((gt s i).pl,(gt s i).rd) (decide ((gt s i).pl≠to)&&decide ((gt s i).rd<=dl)):=by rw [Pu l,Nrr,OJ l]
 have o:(WE to dl PL (s.take i)).length<2 ^ 29:=by
  have:=Ndj (to:=to) (dl:=dl) (s:=s.take i) (PL:=PL)
  rw [N6] at this;omega
 have u:∀Z,PS A M X (G'++Z) y x vs (WE to dl PL (s.take i)):=fun Z=>⟨(NZ.refl.app).cells f.hdr,f.own.app Z,by
  have D:M<G'.length:=by have:=f.ma;omega
  rw [NK D];exact f.mp,f.ma,f.nd,fun b c=>⟨by have:=(f.sx b c).1;simp;omega,(f.sx b c).2⟩⟩
 by_cases g1:(gt s i).pl=to
 ·rw [show (decide ((gt s i).pl≠to)&&decide ((gt s i).rd<=dl))=false by simp [g1]] at w
  simp only [n39,f6,f9,g,e,d,l,L,P,r,t,OI,SS,Tn,NL,n,Nq g1,SB,seval,NE,NJ,NF,place,NA]
  refine Ndi (p:=((gt s i).pl,(gt s i).rd)) (u _) v o J fun R pp2 cp2 j k m=>?_
  refine NI ?_
  simp only [n39,d,O,SB,seval,NJ,NF]
  exact F (i+1,pp2,cp2) _ _ ⟨by show i+1<=_;omega,⟨f1,f3,f4,f6,f9,f10⟩,g,e,rfl,by rw [w];first | exact j | (rw [Na];exact j),fun b c=>by first | exact (k b c).trans ((NK (f.sx b c).1).trans (q b c)) | (rw [Na];exact (k b c).trans ((NK (f.sx b c).1).trans (q b c))),by simp at m⊢;omega⟩ (by show s.length-(i+1)<s.length-i;omega)
 by_cases B:(gt s i).rd<=dl
 ·rw [show (decide ((gt s i).pl≠to)&&decide ((gt s i).rd<=dl))=true by simp [g1,B]] at w
  simp only [n39,f3,f6,f9,g,e,d,l,L,P,r,t,OI,SS,Tn,NL,n,Nn g1,Nq B,SB,seval,NE,NJ,NF,place,NA]
  refine Ndi (p:=((gt s i).pl,(gt s i).rd)) (u _) v o J fun R pp2 cp2 j k m=>?_
  refine NI ?_
  simp only [n39,d,O,SB,seval,NJ,NF]
  exact F (i+1,pp2,cp2) _ _ ⟨by show i+1<=_;omega,⟨f1,f3,f4,f6,f9,f10⟩,g,e,rfl,by rw [w];first | exact j | (rw [Na];exact j),fun b c=>by first | exact (k b c).trans ((NK (f.sx b c).1).trans (q b c)) | (rw [Na];exact (k b c).trans ((NK (f.sx b c).1).trans (q b c))),by simp at m⊢;omega⟩ (by show s.length-(i+1)<s.length-i;omega)
 ·rw [show (decide ((gt s i).pl≠to)&&decide ((gt s i).rd<=dl))=false by simp [g1,B]] at w
  simp only [n39,f3,f6,f9,g,e,d,l,L,P,r,t,OI,SS,Tn,NL,n,Nn g1,Nn B,SB,seval,NE,NJ,NF,place,NA]
  refine Ndi (p:=((gt s i).pl,(gt s i).rd)) (u _) v o J fun R pp2 cp2 j k m=>?_
  refine NI ?_
  simp only [n39,d,O,SB,seval,NJ,NF]
  exact F (i+1,pp2,cp2) _ _ ⟨by show i+1<=_;omega,⟨f1,f3,f4,f6,f9,f10⟩,g,e,rfl,by rw [w];first | exact j | (rw [Na];exact j),fun b c=>by first | exact (k b c).trans ((NK (f.sx b c).1).trans (q b c)) | (rw [Na];exact (k b c).trans ((NK (f.sx b c).1).trans (q b c))),by simp at m⊢;omega⟩ (by show s.length-(i+1)<s.length-i;omega)
theorem PS.sim {A M:Nat} {X X':List Nat} {G G':NB} {pp:Option Addr} {cp:Nat} {vs:List Value} {PL:List (Int×Int)} (h:PS A M X G pp cp vs PL) (d:∀b,b=A\/b=M\/b∈PZ pp->NC G' b=NC G b) (i:∀b∈X',b<G'.length/\(b∈X\/G.length<=b)):PS A M X' G' pp cp vs PL:=by
 have g:=ND h.hdr
 have f:=h.ma
 refine ⟨(d A (.inl rfl)).trans h.hdr,RN h.own fun a c=>d _ (.inr (.inr (NT.2 ⟨a,c,rfl⟩))),(d M (.inr (.inl rfl))).trans h.mp,f,h.nd,fun b j=>?_⟩
 obtain ⟨h1,h2⟩:=i b j
 rcases h2 with h2 | h2
 ·exact ⟨h1,(h.sx b h2).2⟩
 ·exact ⟨h1,by omega,by omega,fun k=>by obtain ⟨a,c,e⟩:=NT.1 k;have:=(h.own.block c).2;omega⟩
def XG (to:Int) (PL:List (Int×Int)) (C:List (Leg×Int)):List (Int×Int):=C.foldl (fun PL c=>UA (UA PL (c.1.frm,c.2-c.1.cut) true) (c.1.dst,c.2+c.1.mins) (decide (c.1.dst≠to))) PL
theorem Nrs {to:Int} {PL:List (Int×Int)} {C:List (Leg×Int)} {c:Leg×Int}:XG to PL (C++[c])=UA (UA (XG to PL C) (c.1.frm,c.2-c.1.cut) true) (c.1.dst,c.2+c.1.mins) (decide (c.1.dst≠to)):=by unfold XG;rw [List.foldl_append];rfl
theorem Ndn {to:Int}:∀{C:List (Leg×Int)} {PL:List (Int×Int)},(XG to PL C).length<=PL.length+2*C.length
 | [],PL=>by simp [XG]
 | c::C,PL=>by
   have ih:=Ndn (to:=to) (C:=C) (PL:=UA (UA PL (c.1.frm,c.2-c.1.cut) true) (c.1.dst,c.2+c.1.mins) (decide (c.1.dst≠to)))
   have h1:=Ma (PL:=PL) (p:=(c.1.frm,c.2-c.1.cut)) (w:=true)
   have h2:=Ma (PL:=UA PL (c.1.frm,c.2-c.1.cut) true) (p:=(c.1.dst,c.2+c.1.mins)) (w:=decide (c.1.dst≠to))
   show (XG to (UA (UA PL (c.1.frm,c.2-c.1.cut) true) (c.1.dst,c.2+c.1.mins) (decide (c.1.dst≠to))) C).length<=_
   simp only [Nj];omega
theorem Nw6 [OB] {lim A M Bn Bt Bg Bf Bd2 Bn2 Bt2 np cpn cl:Nat} {X:List Nat} {G:NB} {fr:Nat->Value} {ps pp pp2 pl:Option Addr} {ns cs cp:Nat} {to dl:Int} {vs:List Value} {PL:List (Int×Int)} {L:List Leg} {K:List AItem} {Q:Value->NB->Prop}
  (hf:BF fr ps ns cs dl Bn Bt Bg Bf) (h:PS A M X G pp cp vs PL) (V:lim<=M) (hv:vs.length=6) (hl:PL.length+2*(NP L to dl).length<2 ^ 28)
  (hG:NC G Bg=Vc [Vp A]) (hT:NC G Bt=Vc [Vi to]) (D:Bg∈X/\Bt∈X)
  (ac:fr 52=.func (.func 74) #[] #[Vp Bd2,Vp Bn2,Vp Bt2])
  (ah:NC G Bd2=Vc [Vi dl]) (ai:NC G Bn2=Vc (QJ pp2 np cpn pl L.length cl)) (aj:NC G Bt2=Vc [Vi to]) (hs:Sl G QO 8 pl L) (hK:Bd2∈X/\Bn2∈X/\Bt2∈X/\∀a,pl=some a->L≠[]->a.block∈X) (hF:∀l∈L,Fine l) (am:L.length<2 ^ 40) (aq:0<=dl) (au:dl<=OP)
  (hR:∀G' f c,PS A M X G' f c vs (XG to PL (NP L to dl))->(∀b∈X,NC G' b=NC G b)->NC G' G.length=.dfr->G.length+2<=G'.length->PI E a39 lim (K++[.mark G.length]) fr G' Q) :
  PI E a39 lim (.code (.rangeF (t 52) [53,54] Xk Xj)::K) fr G Q:=by
 have ag:=ND h.hdr
 have bp:=h.ma
 have bh:lim<=G.length:=by omega
 have mt:OP=1051898399:=rfl
 obtain ⟨f1,f3,f4,f6,f9,f10⟩:=hf
 have P:NE (ev fr (t 52)) [.func (.yield (G.length+1)) #[] #[]] = some (.inl 74,[.func (.yield (G.length+1)) #[] #[],Vp Bd2,Vp Bn2,Vp Bt2]):=by rw [show ev fr (t 52)=_ from ac];rfl
 rw [Wl P]
 have g:=h.sx
 have k:∀b∈X,NC (G++[Blk.dfr,.loop ⟨0,none,fr,155,[53,54],Xk,Xj⟩]) b=NC G b:=fun b hb=>NK (g b hb).1
 refine Xp (lim:=lim) (Y:=G.length+1) (Bd:=Bd2) (Bn:=Bn2) (Bt:=Bt2) (np:=np) (pp:=pp2) (pl:=pl) (cp:=cpn) (cl:=cl) (L:=L) (to:=to) (dl:=dl)
  (fun rest q G'=>∃done f c,done++rest=NP L to dl/\PS A M (G.length::(G.length+1)::(X++q)) G' f c vs (XG to PL done)/\NC G' G.length=.dfr/\NC G' (G.length+1)=.loop ⟨0,none,fr,155,[53,54],Xk,Xj⟩/\(∀b∈X,NC G' b=NC G b)/\G.length+2<=G'.length) X ?_ ?_ ((k _ hK.1).trans ah) ((k _ hK.2.1).trans ai) ((k _ hK.2.2.1).trans aj) (hs.app _) hK ?_ hF am aq au (by simp;omega) ?_ ?_
 ·rintro rest q bd H H' ⟨done,f,c,e1,e2,e3,e4,r,e6⟩ m ao
  have U:=m.len
  have n:=ND e2.hdr
  refine ⟨done,f,c,e1,e2.sim (fun b hb=>?_) (fun b hb=>?_),m.get e3 (by omega) (by simp),m.get e4 (by omega) (by simp),fun b hb=>?_,by omega⟩
  ·rcases hb with rfl | rfl | hb
   ·exact m.other _ n (by simp)
   ·exact m.other _ (by omega) (by simp)
   ·obtain ⟨a,O,rfl⟩:=NT.1 hb
    exact m.other _ (e2.own.block O).2 (by simp)
  ·simp only [Nu,Nw] at hb
   rcases hb with rfl | rfl | hb | hb
   ·exact ⟨by omega,.inl (by simp)⟩
   ·exact ⟨by omega,.inl (by simp)⟩
   ·have:=(g b hb).1
    exact ⟨by omega,.inl (by simp [hb])⟩
   ·rcases ao b hb with h1 | ⟨h1,h2⟩
    ·have:=(e2.sx b (by simp [h1])).1
     exact ⟨by omega,.inl (by simp [h1])⟩
    ·exact ⟨h2,.inr h1⟩
  ·have:=(g b hb).1
   rw [m.other b (by omega) (by simp)];exact r b hb
 ·rintro x rest q G' ba hx bf ⟨done,f,c,e1,e2,e3,e4,r,e6⟩
  have bk:=e2.own
  obtain ⟨a2,_,d,_,bl,bm,bo⟩:=QT hx
  have ak:=hF _ a2
  have J:=ak
  unfold Fine at J
  have n:=ND e2.hdr
  have bc:done.length<(NP L to dl).length:=by rw [<-e1,Nb,Nj];omega
  have a0:(XG to PL done).length<2 ^ 28:=by have:=Ndn (to:=to) (C:=done) (PL:=PL);omega
  rw [MP (x:=⟨0,none,fr,155,[53,54],Xk,Xj⟩) e4 (by omega) rfl rfl]
  rw [show Td fr [53,54] [.agg (QO x.1).toArray,.agg #[Vi x.2,Vi (x.2+x.1.mins)]] = upd (upd fr 53 (.agg (QO x.1).toArray)) 54 (.agg #[Vi x.2,Vi (x.2+x.1.mins)]) from rfl]
  rw [NQ Xk.eq_1]
  refine NI ?_
  obtain ⟨G1,e7,h7,B⟩:=OO (G:=G') (R:=G.length+1) (by omega) (.loop ⟨1,none,fr,155,[53,54],Xk,Xj⟩)
  have gY:=fun X=>(NZ.refl.app (X:=X)).get' e4 (by omega)
  have T:lim<=G'.length:=by omega
  simp only [NV,NL,T,gY,e7,show lim<=G.length+1 by omega,SB,seval,NJ,place,NA]
  rw [NQ Xj.eq_1]
  have F:∀b,b≠G.length+1->∀Z,b<G'.length->NC (G1++Z) b=NC G' b:=fun b hb Z ap=>by rw [NK (by rw [B.len];exact ap)];exact B.other b hb
  have y:=e2.sx (G.length+1) (by simp)
  have P1:PS A M (G'.length::(G'.length+1)::(G.length::(G.length+1)::(X++q))) (G1++[Vc (QO x.1),Vc [Vi x.2,Vi (x.2+x.1.mins)]]) f c vs (XG to PL done):=by
   refine e2.sim (fun b hb=>?_) (fun b hb=>?_)
   ·rcases hb with rfl | rfl | hb
    ·exact F _ (fun e=>y.2.1 e.symm) _ n
    ·exact F _ (fun e=>y.2.2.1 e.symm) _ (by omega)
    ·obtain ⟨a,O,rfl⟩:=NT.1 hb
     exact F _ (fun e=>y.2.2.2 (e▸hb)) _ (e2.own.block O).2
   ·have bb:=B.len
    rw [Nu,Nu] at hb
    rcases hb with rfl | rfl | hb
    ·exact ⟨by simp;omega,.inr (Ng _)⟩
    ·exact ⟨by simp;omega,.inr (by omega)⟩
    ·have:=(e2.sx b hb).1
     exact ⟨by simp;omega,.inl hb⟩
  have S:∀Z,NC (G1++Z) Bg=Vc [Vp A]:=fun Z=>by
   have:=(g _ D.1).1
   rw [F _ (by omega) _ (by omega),r _ D.1];exact hG
  have c5:∀X:NB,NC (G1++X) G'.length=X.getD 0 .dead:=(VC B.len).2.2.1
  have c6:∀(X:NB) (j:Nat),NC (G1++X) (G'.length+j)=X.getD j .dead:=(VC B.len).2.1
  have wc:IntKind.i64.wrap (x.2-x.1.cut)=x.2-x.1.cut:=NY (by omega) (by omega)
  simp only [f9,PY,Si,S,c5,c6,wc,SB,seval,NE,NJ,NF]
  refine Ndi (p:=(x.1.frm,x.2-x.1.cut)) P1 V (by omega) hv fun I pp2 cp2 an o ay=>?_
  have av:∀Z,NC (I++Z) Bg=Vc [Vp A]:=fun Z=>(NZ.refl.app).cells ((o _ (by simp [D.1])).trans (S _))
  have a5:∀Z,NC (I++Z) Bt=Vc [Vi to]:=fun Z=>(NZ.refl.app).cells ((o _ (by simp [D.2])).trans (by
   have:=(g _ D.2).1
   rw [F _ (by omega) _ (by omega),r _ D.2];exact hT))
  have ad:∀Z,NC (I++Z) G'.length=Vc (QO x.1):=fun Z=>(NZ.refl.app).cells ((o _ (by simp)).trans (by rw [c5];rfl))
  have ae:∀Z,NC (I++Z) (G'.length+1)=Vc [Vi x.2,Vi (x.2+x.1.mins)]:=fun Z=>(NZ.refl.app).cells ((o _ (by simp)).trans (by rw [c6];rfl))
  have a1:=Ma (PL:=XG to PL done) (p:=(x.1.frm,x.2-x.1.cut)) (w:=true)
  refine NI ?_
  simp only [f6,f9,QX,av,a5,ad,ae,SB,seval,NE,NJ,NF]
  have N:PS A M (G'.length::(G'.length+1)::(G.length::(G.length+1)::(X++q))) (I++[]) pp2 cp2 vs (UA (XG to PL done) (x.1.frm,x.2-x.1.cut) true):=by rw [Na];exact an
  refine Ndi (p:=(x.1.dst,x.2+x.1.mins)) N V (by omega) hv fun W a6 aa s aw az=>?_
  have kk:∀b∈(G'.length::(G'.length+1)::(G.length::(G.length+1)::(X++q))),NC W b=NC (G1++[Vc (QO x.1),Vc [Vi x.2,Vi (x.2+x.1.mins)]]) b:=fun b hb=>by rw [aw b hb,Na,o b hb]
  have k0:∀b∈(G.length::(G.length+1)::(X++q)),b≠G.length+1->NC W b=NC G' b:=fun b hb a3=>by
   rw [kk b (Nh _ (Nh _ hb)),F b a3 _ (e2.sx b hb).1]
  have y3:NC W (G.length+1)=.loop ⟨1,none,fr,155,[53,54],Xk,Xj⟩:=by rw [kk _ (by simp),NK (by rw [B.len];omega)];exact h7
  simp only [Na] at az
  simp only [Nb,Nj,Nl,B.len] at ay
  obtain ⟨G4,e8,h8,m8⟩:=OO (G:=W) (R:=G.length+1) (by omega) (.loop ⟨0,none,fr,155,[53,54],Xk,Xj⟩)
  have a8:=fun X=>(NZ.refl.app (X:=X)).get' y3 (by omega)
  refine NI ?_
  simp only [a8,e8,show lim<=G.length+1 by omega,SB,seval]
  have be:=m8.len
  have z:=s.sx (G.length+1) (by simp)
  have i:∀j∈(G.length::(G.length+1)::(X++q)),NC (G4++[]) j=NC G' j:=fun j u=>by
   rw [Na]
   by_cases v:j=G.length+1
   ·subst v;rw [h8,e4]
   ·rw [m8.other j v];exact k0 j u v
  refine ⟨⟨done++[x],a6,aa,by rw [Nr];exact e1, ?_,(i _ (by simp)).trans e3,(i _ (by simp)).trans e4,fun b hb=>(i b (by simp [hb])).trans (r b hb),by omega⟩,by omega,fun j u=>i j (by simp [u])⟩
  rw [Nrs]
  refine s.sim (fun b hb=>?_) (fun b hb=>?_)
  ·rw [Na]
   refine m8.other b ?_
   rcases hb with rfl | rfl | hb
   ·exact fun e=>z.2.1 e.symm
   ·exact fun e=>z.2.2.1 e.symm
   ·exact fun e=>z.2.2.2 (e▸hb)
  ·have:=(s.sx b (Nh _ (Nh _ hb))).1
   exact ⟨by simp;omega,.inl (Nh _ (Nh _ hb))⟩
 ·intro j u;have:=(g j u).1;simp;omega
 ·refine ⟨[],pp,cp,rfl,h.sim (fun b hb=>?_) (fun b hb=>?_),NN,OL,k,by simp⟩
  ·rcases hb with rfl | rfl | hb
   ·exact NK ag
   ·exact NK (by omega)
   ·obtain ⟨a,O,rfl⟩:=NT.1 hb
    exact NK (h.own.block O).2
  ·simp only [Nu,Nw,or_self] at hb
   rcases hb with rfl | rfl | hb
   ·exact ⟨by simp,.inr (by omega)⟩
   ·exact ⟨by simp,.inr (by omega)⟩
   ·have:=(g b hb).1
    exact ⟨by simp;omega,.inl hb⟩
 ·rintro G' ⟨done,f,c,e1,e2,e3,e4,r,e6⟩ bg U
  rw [Na] at e1
  subst e1
  rw [Zi e4,Ngx]
  show PI E a39 lim (K++[.mark G.length]) fr _ _
  have m:Mut G' (G'.set (G.length+1) .dead) (G.length+1):=⟨by simp,fun j u=>OQ u⟩
  refine hR _ f c (e2.sim (fun b hb=>m.other b ?_) fun b hb=>?_) (fun b hb=>?_) ((m.other _ (by omega)).trans e3) (by rw [m.len];omega)
  ·have y:=e2.sx (G.length+1) (by simp)
   rcases hb with rfl | rfl | hb
   ·exact fun e=>y.2.1 e.symm
   ·exact fun e=>y.2.2.1 e.symm
   ·exact fun e=>y.2.2.2 (e▸hb)
  ·have:=(e2.sx b (by simp [hb])).1
   exact ⟨by rw [m.len];exact this,.inl (by simp [hb])⟩
  ·have:=(g b hb).1
   rw [m.other b (by omega)];exact r b hb
theorem Ncj {SL:List (Int×Int)} {es:List ((Int×Int)×Int)} {to:Int} {p:Int×Int} (h:Nof SL es) (a:p.1≠to->p∈SL):(if p.1=to then 1 else (TK p es).getD 0)=((PV SL to p.1 p.2:Nat):Int):=by
 by_cases hp:p.1=to
 ·rw [Nk hp];unfold PV;rw [Nk hp];rfl
 ·obtain ⟨e1,e2,e3⟩:=VB (PL:=SL) (to:=to) (p:=p.1) (t:=p.2) hp (a hp)
  rw [Nf hp,e1]
  have:=h _ e2
  rw [e3] at this
  rw [show TK p es=_ from this];rfl
theorem Neo {PL:List (Int×Int)} {to dl:Int} {x:Flow.Src}:∀{s:List Flow.Src},Sj PL to dl (s++[x])=Sj PL to dl s++if x.rd<=dl then [⟨PV PL to x.pl x.rd,0,x.gr,0⟩] else []
 | []=>by simp only [Ob,Sj]
 | y::s=>by
   have ih:=Neo (PL:=PL) (to:=to) (dl:=dl) (x:=x) (s:=s)
   rw [Oc,Sj,Sj,ih]
   split<;>simp
theorem Z7 {PL:List (Int×Int)} {to dl:Int}:∀{s:List Flow.Src},(Sj PL to dl s).length<=s.length
 | []=>by simp [Sj]
 | y::s=>by
   have ih:=Z7 (PL:=PL) (to:=to) (dl:=dl) (s:=s)
   rw [Sj]
   split<;>simp<;>omega
theorem M6 {SL:List (Int×Int)} {to p t:Int} (h:p≠to->(p,t)∈SL):PV SL to p t<SL.length+2:=by
 by_cases hp:p=to
 ·unfold PV;rw [Nk hp];omega
 ·obtain ⟨e1,e2,e3⟩:=VB (PL:=SL) hp (h hp)
  omega
theorem JS.app {A Bo:Nat} {X:List Nat} {G:NB} {vp vm v4 v5 vw vmost:Value} {pa:Option Addr} {ca co:Nat} {ols:List Yo} {out:List (List Nat)} {l:List Pr} (h:JS A Bo X G vp vm v4 v5 vw vmost pa ca co ols out l) (Z:NB):JS A Bo X (G++Z) vp vm v4 v5 vw vmost pa ca co ols out l:=
 h.keep (fun b _ a=>NK a) (by simp)
theorem Nvm [OB] {lim A M Bo Bn Bt Bg Bf:Nat} {X:List Nat} {G:NB} {fr:Nat->Value} {ps pa:Option Addr} {s:List Flow.Src} {cs ca co:Nat} {to dl:Int} {vp v4 v5 vw vmost:Value} {ols:List Yo} {out:List (List Nat)} {l:List Pr} {SL:List (Int×Int)} {es:List ((Int×Int)×Int)} {K:List AItem} {Q:Value->NB->Prop}
  (hf:BF fr ps s.length cs dl Bn Bt Bg Bf) (h:JS A Bo X G vp (.map (some M)) v4 v5 vw vmost pa ca co ols out l) (aj:lim<=A) (hM:NC G M=.map (Sz kM vI es)) (au:M<A) (P:Nof SL es)
  (D:∀x∈s,x.rd<=dl->x.pl≠to->(x.pl,x.rd)∈SL) (hO:OutOk l out) (am:out.length=SL.length+2) (ak:∀v,(gt out v).length<=2*l.length) (ay:l.length+s.length<2 ^ 27)
  (hG:NC G Bg=Vc [Vp A]) (hT:NC G Bt=Vc [Vi to]) (ae:NC G Bf=Vc [.func (.func 58) #[] #[Vp Bt,Vp Bg]])
  (w:(Bg<Bo/\Bg≠A)/\(Bt<Bo/\Bt≠A)/\(Bf<Bo/\Bf≠A)/\∀a,ps=some a->s≠[]->a.block<Bo/\a.block≠A) (hs:Sl G encS 3 ps s)
  (n:fr 78=.slice ps s.length cs) (e:fr 79=Vi s.length) (g:fr 80=Vi 0)
  (hR:∀fr' G' an ac R k,BF fr' ps s.length cs dl Bn Bt Bg Bf->JS A Bo X G' vp (.map (some M)) v4 v5 vw vmost an ac co R k (l++Sj SL to dl s)->OutOk (l++Sj SL to dl s) k->k.length=SL.length+2->(∀v,(gt k v).length<=2*(l++Sj SL to dl s).length)->(∀b,b<Bo->b≠A->NC G' b=NC G b)->G.length<=G'.length->PI E a39 lim K fr' G' Q) :
  PI E a39 lim (.code (.loop Nuy)::.inBlock 4::K) fr G Q:=by
 have av:=h.ab
 refine NM (fun z:Nat×(Option Addr×Nat)×(List Yo×List (List Nat))=>s.length-z.1) (fun z fr G'=>z.1<=s.length/\BF fr ps s.length cs dl Bn Bt Bg Bf/\fr 78=.slice ps s.length cs/\fr 79=Vi s.length/\fr 80=Vi z.1/\JS A Bo X G' vp (.map (some M)) v4 v5 vw vmost z.2.1.1 z.2.1.2 co z.2.2.1 z.2.2.2 (l++Sj SL to dl (s.take z.1))/\OutOk (l++Sj SL to dl (s.take z.1)) z.2.2.2/\z.2.2.2.length=SL.length+2/\(∀v,(gt z.2.2.2 v).length<=2*(l++Sj SL to dl (s.take z.1)).length)/\(∀b,b<Bo->b≠A->NC G' b=NC G b)/\G.length<=G'.length) (0,(pa,ca),(ols,out))
  ⟨Nv _,hf,n,e,g,by rw [Qn,Sj,Na];exact h,by rw [Qn,Sj,Na];exact hO,am,by rw [Qn,Sj,Na];exact ak,fun b _ _=>rfl,Ng _⟩ ?_
 rintro ⟨i,⟨T,N⟩,⟨F,m⟩⟩ fr G' ⟨hi,hf,n,e,g,H,o,j,c,y,aw⟩ hN
 simp only at hi g H o j c
 obtain ⟨f1,f3,f4,f6,f9,f10⟩:=hf
 rw [NQ Nuy.eq_1]
 refine NI ?_
 by_cases d:i<s.length
 case neg=>
  obtain rfl:i=s.length:=by omega
  rw [Of] at H o c
  simp only [n39,e,g,d,SB,seval,NJ,NF]
  exact hR _ _ T N F m ⟨f1,f3,f4,f6,f9,f10⟩ (by rw [Na];exact H) o j c (by rw [Na];exact y) (by simp;omega)
 have sG:=WZ hs fun a ha hn=>y _ (w.2.2.2 a ha hn).1 (w.2.2.2 a ha hn).2
 have lS:=fun Z=>(sG.app Z).loadCells OI d
 have xS:=QN sG d rfl
 have aq:=ND H.os.ou
 have L:=fun Z=>(NZ.refl.app (X:=Z)).cells ((y _ w.1.1 w.1.2).trans hG)
 have aa:=fun Z=>(NZ.refl.app (X:=Z)).cells ((y _ w.2.1.1 w.2.1.2).trans hT)
 have Y:=fun Z=>(NZ.refl.app (X:=Z)).cells ((y _ w.2.2.1.1 w.2.2.1.2).trans ae)
 have W:=fun Z=>(NZ.refl.app (X:=Z)).cells H.hdr
 have U:NC G' M=.map (Sz kM vI es):=(y M (by omega) (by omega)).trans hM
 have V:∀Z,NC (G'++Z) M=.map (Sz kM vI es):=fun Z=>by rw [NK (by omega)];exact U
 have w1:IntKind.i64.wrap ((i:Int)+1)=((i+1:Nat):Int):=NS (by omega)
 have B:lim<=G'.length:=by omega
 have C:=PK d
 have I:Sj SL to dl (s.take (i+1))=Sj SL to dl (s.take i)++if (gt s i).rd<=dl then [⟨PV SL to (gt s i).pl (gt s i).rd,0,(gt s i).gr,0⟩] else []:=by rw [Pu d,Neo,OJ d]
 have ap:(l++Sj SL to dl (s.take i)).length<2 ^ 27:=by
  have:=Z7 (PL:=SL) (to:=to) (dl:=dl) (s:=s.take i)
  rw [N6] at this
  rw [Nb];omega
 by_cases J:(gt s i).rd<=dl
 ·rw [Nk J] at I
  have q:=fun (mp:Bool) (lim:Nat) (Z:NB) (Q:Value->NB->Prop)=>Ngf (mp:=mp) (lim:=lim) (p:=((gt s i).pl,(gt s i).rd)) (Q:=Q) (aa Z) (L Z) (W Z) (V Z)
  have O:=Ncj (to:=to) (p:=((gt s i).pl,(gt s i).rd)) P (D _ C J)
  simp only at O
  simp only [O] at q
  have az:=M6 (to:=to) (p:=(gt s i).pl) (t:=(gt s i).rd) (D _ C J)
  simp only [n39,f3,f9,f10,n,e,g,d,lS,xS,L,Y,OI,SS,Tn,Vu,NL,B,Nq J,q,SB,seval,NE,NJ,NF,place,NA]
  refine Ngr (f:=0) (t:=PV SL to (gt s i).pl (gt s i).rd) (H.app _) aj (by omega) (by omega) (fun v=>by have:=c v;omega) (by omega) fun G2 ao ad S ag ah ai=>?_
  simp only [n39,g,w1,SB,seval,NJ,NF]
  have ec:l++Sj SL to dl (s.take (i+1))=(l++Sj SL to dl (s.take i))++[⟨PV SL to (gt s i).pl (gt s i).rd,0,(gt s i).gr,0⟩]:=by rw [I,Nr]
  exact hN (i+1,(ao,ad),(S,Vg m 0 (PV SL to (gt s i).pl (gt s i).rd) (2*(l++Sj SL to dl (s.take i)).length))) _ _ ⟨by show i+1<=_;omega,⟨f1,f3,f4,f6,f9,f10⟩,n,e,rfl,by rw [ec];exact ag,by rw [ec];exact o.join (by omega) (by omega),by show (Vg _ _ _ _).length=_;rw [WQ];exact j,fun v=>by
   show (gt (Vg _ _ _ _) v).length<=_
   rw [ec,Nb (as:=l++Sj SL to dl (s.take i))]
   have:=XX (out:=m) (f:=0) (t:=PV SL to (gt s i).pl (gt s i).rd) (i:=2*(l++Sj SL to dl (s.take i)).length) (v:=v) (by omega) (by omega)
   have:=c v
   simp only [Nj,Nl];omega,fun b r u=>by rw [ah b (.inl ⟨r,u⟩),NK (by omega)];exact y b r u,by simp at ai;omega⟩ (by show s.length-(i+1)<s.length-i;omega)
 ·rw [Nf J,Na] at I
  simp only [n39,f3,n,e,g,d,lS,xS,OI,Tn,NL,B,Nn J,w1,SB,seval,NJ,NF,place,NA]
  exact hN (i+1,(T,N),(F,m)) _ _ ⟨by show i+1<=_;omega,⟨f1,f3,f4,f6,f9,f10⟩,n,e,rfl,by rw [I];exact H.app _,by rw [I];exact o,j,by rw [I];exact c,fun b r u=>by rw [NK (by omega)];exact y b r u,by simp;omega⟩ (by show s.length-(i+1)<s.length-i;omega)
def Vt (w:(Leg×Int)×Nat):List Value:=QO w.1.1++[Vi w.1.2,Vi (w.1.2+w.1.1.mins),Vi w.2]
theorem SK (w:(Leg×Int)×Nat):(Vt w).length=11:=id rfl
def Tz:Nat->List (Leg×Int)->List ((Leg×Int)×Nat)
 | _,[]=>[]
 | n,c::C=>(c,n)::Tz (n+2) C
theorem Nbj {c:Leg×Int}:∀{C:List (Leg×Int)} {n:Nat},Tz n (C++[c])=Tz n C++[(c,n+2*C.length)]
 | [],n=>by simp [Tz]
 | d::C,n=>by
   rw [Oc,Tz,Nbj,Tz,Oc,Nj]
   congr 4;omega
theorem WH:∀{C:List (Leg×Int)} {n:Nat},(Tz n C).length=C.length
 | [],n=>rfl
 | d::C,n=>by rw [Tz,Nj,WH,Nj]
theorem Noj {PL:List (Int×Int)} {to:Int} {C:List (Leg×Int)} {c:Leg×Int}:Tu PL to (C++[c])=Tu PL to C++[⟨PV PL to c.1.dst (c.2+c.1.mins),PV PL to c.1.frm (c.2-c.1.cut),c.1.grams,0⟩]:=by unfold Tu;rw [Pe];rfl
theorem WI {PL:List (Int×Int)} {to:Int} {C:List (Leg×Int)}:(Tu PL to C).length=C.length:=by unfold Tu;rw [Ou]
theorem JS.sim {A Bo:Nat} {X X':List Nat} {G G':NB} {vp vm v4 v5 vw i vmost c:Value} {pa:Option Addr} {ca co:Nat} {ols:List Yo} {out:List (List Nat)} {l:List Pr} (h:JS A Bo X G vp vm v4 v5 vw vmost pa ca co ols out l) (r:NC G' A=Vc [vp,vm,.slice pa (2*l.length) ca,.slice (Sa Bo) out.length co,v4,v5,i,c]) (m:∀b,Bo<=b->b<G.length->b∉X->NC G' b=NC G b) (hl:G.length<=G'.length) (p:∀b∈X',b<G'.length/\(b∈X\/G.length<=b\/(b<Bo/\b≠A))):JS A Bo X' G' vp vm v4 v5 i c pa ca co ols out l:=by
 have s:=ND h.hdr
 have j:=ND h.os.ou
 have k:=h.ab
 have h1:∀u a,u<out.length->(gt ols u).1=some a->NC G' a.block=NC G a.block:=fun u a g d=>by
  have:=(h.os.us u g).1.block d
  exact m _ (by omega) this.2 fun f=>(h.os.sy _ (N1 _ f)).2.2 u a g d rfl
 have h2:∀a,pa=some a->NC G' a.block=NC G a.block:=fun a d=>by
  have:=h.ar.block d
  exact m _ (by omega) this.2 fun f=>(h.ax _ f).1 (NT.2 ⟨a,d,rfl⟩)
 have q:NC G' Bo=NC G Bo:=m Bo (Ng _) j fun f=>(h.os.sy _ (N1 _ f)).2.1 rfl
 refine ⟨r,RN h.ar h2,(h.os.sim q h1 hl).withY fun b hb=>?_,k,fun b hb=>?_⟩
 ·rcases Nw.1 hb with hb | hb
  ·obtain ⟨t,n,o⟩:=h.os.sy b (Ny _ hb)
   exact ⟨by omega,n,o⟩
  ·obtain ⟨g1,g2⟩:=p b hb
   rcases g2 with g2 | g2 | g2
   ·obtain ⟨t,n,o⟩:=h.os.sy b (N1 _ g2)
    exact ⟨g1,n,o⟩
   ·exact ⟨g1,by omega,fun u a g d=>by have:=(h.os.us u g).1.block d;omega⟩
   ·exact ⟨g1,by omega,fun u a g d=>by have:=(h.os.us u g).1.block d;omega⟩
 ·obtain ⟨g1,g2⟩:=p b hb
  rcases g2 with g2 | g2 | g2
  ·exact h.ax b g2
  ·exact ⟨fun f=>by obtain ⟨a,d,e⟩:=NT.1 f;have:=(h.ar.block d).2;omega,by omega⟩
  ·exact ⟨fun f=>by obtain ⟨a,d,e⟩:=NT.1 f;have:=(h.ar.block d).1;omega,g2.2⟩
theorem Nql [OB] {lim A M Bo Bn Bt Bg Bf Bd2 Bn2 Bt2 np cpn cl:Nat} {X Kk:List Nat} {G:NB} {fr:Nat->Value} {ps pp2 pl pa:Option Addr} {ns cs ca co:Nat} {to dl:Int} {vp v4 v5 vmost:Value} {ols:List Yo} {out:List (List Nat)} {l:List Pr} {SL:List (Int×Int)} {es:List ((Int×Int)×Int)} {L:List Leg} {K:List AItem} {Q:Value->NB->Prop}
  (hf:BF fr ps ns cs dl Bn Bt Bg Bf) (h:JS A Bo X G vp (.map (some M)) v4 v5 Vz vmost pa ca co ols out l) (a8:lim<=A) (hM:NC G M=.map (Sz kM vI es)) (dm:M<A) (ad:Nof SL es)
  (T:∀c∈NP L to dl,(c.1.frm≠to/\(c.1.frm,c.2-c.1.cut)∈SL)/\(c.1.dst≠to->(c.1.dst,c.2+c.1.mins)∈SL)) (hO:OutOk l out) (cx:out.length=SL.length+2) (cu:∀v,(gt out v).length<=2*l.length) (dv:l.length+(NP L to dl).length<2 ^ 27)
  (hG:NC G Bg=Vc [Vp A]) (hT:NC G Bt=Vc [Vi to]) (b5:NC G Bf=Vc [.func (.func 58) #[] #[Vp Bt,Vp Bg]])
  (hb:(Bg<Bo/\Bg≠A)/\(Bt<Bo/\Bt≠A)/\(Bf<Bo/\Bf≠A)) (ah:∀b∈Kk,b<G.length/\((b<Bo/\b≠A)\/b∈X))
  (av:fr 103=.func (.func 74) #[] #[Vp Bd2,Vp Bn2,Vp Bt2])
  (b0:NC G Bd2=Vc [Vi dl]) (b2:NC G Bn2=Vc (QJ pp2 np cpn pl L.length cl)) (b3:NC G Bt2=Vc [Vi to]) (hs:Sl G QO 8 pl L) (hK:Bd2∈Kk/\Bn2∈Kk/\Bt2∈Kk/\∀a,pl=some a->L≠[]->a.block∈Kk) (hF:∀l∈L,Fine l) (b8:L.length<2 ^ 40) (cg:0<=dl) (ci:dl<=OP)
  (hR:∀G' s r n g pw cw,JS A Bo (PZ pw++X) G' vp (.map (some M)) v4 v5 (.slice pw (NP L to dl).length cw) vmost s r co n g (l++Tu SL to (NP L to dl))->OutOk (l++Tu SL to (NP L to dl)) g->g.length=SL.length+2->(∀v,(gt g v).length<=2*(l++Tu SL to (NP L to dl)).length)->Own (G.length+2) G' Vt 11 pw cw (Tz (2*l.length) (NP L to dl))->(∀b,b<G.length->(b<Bo/\b≠A)\/b∈X->NC G' b=NC G b)->G.length+2<=G'.length->NC G' G.length=.dfr->PI E a39 lim (K++[.mark G.length]) fr G' Q) :
  PI E a39 lim (.code (.rangeF (t 103) [104,105] Wy Wx)::K) fr G Q:=by
 have bz:=ND h.hdr
 have di:=ND h.os.ou
 have dn:=h.ab
 have du:lim<=G.length:=by omega
 have mt:OP=1051898399:=rfl
 obtain ⟨f1,f3,f4,f6,f9,f10⟩:=hf
 have a3:NE (ev fr (t 103)) [.func (.yield (G.length+1)) #[] #[]] = some (.inl 74,[.func (.yield (G.length+1)) #[] #[],Vp Bd2,Vp Bn2,Vp Bt2]):=by rw [show ev fr (t 103)=_ from av];rfl
 rw [Wl a3]
 have O:∀b,b<G.length->NC (G++[Blk.dfr,.loop ⟨0,none,fr,155,[104,105],Wy,Wx⟩]) b=NC G b:=fun b hb=>NK hb
 have P:∀b∈Kk,NC (G++[Blk.dfr,.loop ⟨0,none,fr,155,[104,105],Wy,Wx⟩]) b=NC G b:=fun b hb=>NK (ah b hb).1
 refine Xp (lim:=lim) (Y:=G.length+1) (Bd:=Bd2) (Bn:=Bn2) (Bt:=Bt2) (np:=np) (pp:=pp2) (pl:=pl) (cp:=cpn) (cl:=cl) (L:=L) (to:=to) (dl:=dl)
  (fun rest Xr G'=>∃done s r n g pw cw,done++rest=NP L to dl/\JS A Bo (G.length::(G.length+1)::(PZ pw++(X++Xr))) G' vp (.map (some M)) v4 v5 (.slice pw done.length cw) vmost s r co n g (l++Tu SL to done)/\OutOk (l++Tu SL to done) g/\g.length=SL.length+2/\(∀v,(gt g v).length<=2*(l++Tu SL to done).length)/\Own (G.length+2) G' Vt 11 pw cw (Tz (2*l.length) done)/\(∀b∈PZ pw,b∉Xr)/\NC G' G.length=.dfr/\NC G' (G.length+1)=.loop ⟨0,none,fr,155,[104,105],Wy,Wx⟩/\(∀b,b<G.length->(b<Bo/\b≠A)\/b∈X->NC G' b=NC G b)/\G.length+2<=G'.length) Kk ?_ ?_ ((P _ hK.1).trans b0) ((P _ hK.2.1).trans b2) ((P _ hK.2.2.1).trans b3) (hs.app _) hK ?_ hF b8 cg ci (by simp;omega) ?_ ?_
 ·rintro rest Xr df H H' ⟨done,s,r,n,g,pw,cw,e1,e2,e3,e4,e5,D,e7,e8,e9,z,e11⟩ T az
  have aa:=T.len
  have y:=ND e2.hdr
  have bg:∀b∈PZ pw,b<H.length:=fun b hb=>by obtain ⟨a,u,rfl⟩:=NT.1 hb;exact (D.block u).2
  refine ⟨done,s,r,n,g,pw,cw,e1,e2.sim (T.cells e2.hdr (by simp)) (fun b k hb2 _=>T.other _ hb2 (by simp)) aa (fun b hb=>?_),e3,e4,e5,D.chg T (by simp),fun b hb C=>?_,T.get e8 (by omega) (by simp),T.get e9 (by omega) (by simp),fun b k hb2=>by rw [T.other b (by omega) (by simp)];exact z b k hb2,by omega⟩
  ·simp only [Nu,Nw] at hb
   rcases hb with rfl | rfl | hb | hb | hb
   ·exact ⟨by omega,.inl (by simp)⟩
   ·exact ⟨by omega,.inl (by simp)⟩
   ·exact ⟨by have:=bg b hb;omega,.inl (by simp [hb])⟩
   ·have:=(e2.os.sy b (by simp [hb])).1
    exact ⟨by omega,.inl (by simp [hb])⟩
   ·rcases az b hb with h1 | ⟨h1,h2⟩
    ·have:=(e2.os.sy b (by simp [h1])).1
     exact ⟨by omega,.inl (by simp [h1])⟩
    ·exact ⟨h2,.inr (.inl h1)⟩
  ·rcases az b C with h1 | ⟨h1,h2⟩
   ·exact e7 b hb h1
   ·have:=bg b hb;omega
 ·rintro x rest Xr G' dc hx dk ⟨done,s,r,n,g,pw,cw,e1,e2,e3,e4,e5,D,e7,e8,e9,z,e11⟩
  obtain ⟨cr,_,d,_,dw,dx,dy⟩:=QT hx
  have b6:=hF _ cr
  have aw:=b6
  unfold Fine at aw
  have y:=ND e2.hdr
  have db:=ND e2.os.ou
  have de:done.length<(NP L to dl).length:=by rw [<-e1,Nb,Nj];omega
  have cm:(l++Tu SL to done).length<2 ^ 27:=by rw [Nb,WI];omega
  rw [MP (x:=⟨0,none,fr,155,[104,105],Wy,Wx⟩) e9 (by omega) rfl rfl]
  rw [show Td fr [104,105] [.agg (QO x.1).toArray,.agg #[Vi x.2,Vi (x.2+x.1.mins)]] = upd (upd fr 104 (.agg (QO x.1).toArray)) 105 (.agg #[Vi x.2,Vi (x.2+x.1.mins)]) from rfl]
  rw [NQ Wy.eq_1]
  refine NI ?_
  obtain ⟨G1,e12,bt,N⟩:=OO (G:=G') (R:=G.length+1) (by omega) (.loop ⟨1,none,fr,155,[104,105],Wy,Wx⟩)
  have gY:=fun X=>(NZ.refl.app (X:=X)).get' e9 (by omega)
  have a6:lim<=G'.length:=by omega
  simp only [NV,NL,a6,gY,e12,show lim<=G.length+1 by omega,SB,seval,NJ,place,NA]
  rw [NQ Wx.eq_1]
  have kY:∀b,b≠G.length+1->∀Z,b<G'.length->NC (G1++Z) b=NC G' b:=fun b hb Z cf=>by rw [NK (by rw [N.len];exact cf)];exact N.other b hb
  have c8:=N.len
  have J1:JS A Bo (G'.length::(G'.length+1)::(G.length::(G.length+1)::(PZ pw++(X++Xr)))) (G1++[Vc (QO x.1),Vc [Vi x.2,Vi (x.2+x.1.mins)]]) vp (.map (some M)) v4 v5 (.slice pw done.length cw) vmost s r co n g (l++Tu SL to done):=by
   refine e2.sim ((kY A (by omega) _ y).trans e2.hdr) (fun b k hb2 q=>kY b (fun e=>q (by simp [e])) _ hb2) (by simp;omega) fun b hb=>?_
   rw [Nu,Nu] at hb
   rcases hb with rfl | rfl | hb
   ·exact ⟨by simp;omega,.inr (.inl (Ng _))⟩
   ·exact ⟨by simp;omega,.inr (.inl (by omega))⟩
   ·have:=(e2.os.sy b (N1 _ hb)).1
    exact ⟨by simp;omega,.inl hb⟩
  have kL:∀b,b<Bo->b≠A->∀Z,NC (G1++Z) b=NC G b:=fun b k hb2 Z=>by rw [kY b (by omega) _ (by omega)];exact z b (by omega) (.inl ⟨k,hb2⟩)
  have ak:∀Z,NC (G1++Z) Bg=Vc [Vp A]:=fun Z=>(kL _ hb.1.1 hb.1.2 Z).trans hG
  have bd:∀Z,NC (G1++Z) Bt=Vc [Vi to]:=fun Z=>(kL _ hb.2.1.1 hb.2.1.2 Z).trans hT
  have cj:∀Z,NC (G1++Z) Bf=Vc [.func (.func 58) #[] #[Vp Bt,Vp Bg]]:=fun Z=>(kL _ hb.2.2.1 hb.2.2.2 Z).trans b5
  have ay:∀Z,NC (G1++Z) M=.map (Sz kM vI es):=fun Z=>(kL M (by omega) (by omega) Z).trans hM
  have a0:∀Z,NC (G1++Z) A=Vc [vp,.map (some M),.slice s (2*(l++Tu SL to done).length) r,.slice (Sa Bo) g.length co,v4,v5,.slice pw done.length cw,vmost]:=fun Z=>(kY A (by omega) Z y).trans e2.hdr
  have c5:∀X:NB,NC (G1++X) G'.length=X.getD 0 .dead:=(VC N.len).2.2.1
  have c6:∀(X:NB) (j:Nat),NC (G1++X) (G'.length+j)=X.getD j .dead:=(VC N.len).2.1
  have wc:IntKind.i64.wrap (x.2-x.1.cut)=x.2-x.1.cut:=NY (by omega) (by omega)
  obtain ⟨a1,a2⟩:=T x hx
  have ba:=fun (mp:Bool) (lim:Nat) (Z:NB) (Q:Value->NB->Prop)=>Ngf (mp:=mp) (lim:=lim) (p:=(x.1.frm,x.2-x.1.cut)) (Q:=Q) (bd Z) (ak Z) (a0 Z) (ay Z)
  have be:=Ncj (to:=to) (p:=(x.1.frm,x.2-x.1.cut)) ad (fun _=>a1.2)
  have bb:=fun (mp:Bool) (lim:Nat) (Z:NB) (Q:Value->NB->Prop)=>Ngf (mp:=mp) (lim:=lim) (p:=(x.1.dst,x.2+x.1.mins)) (Q:=Q) (bd Z) (ak Z) (a0 Z) (ay Z)
  have bf:=Ncj (to:=to) (p:=(x.1.dst,x.2+x.1.mins)) ad a2
  simp only at be bf
  simp only [be] at ba
  simp only [bf] at bb
  have dq:=M6 (to:=to) (p:=x.1.frm) (t:=x.2-x.1.cut) (fun _=>a1.2)
  have a5:=M6 (to:=to) (p:=x.1.dst) (t:=x.2+x.1.mins) a2
  simp only [f9,f10,PY,QX,Si,Ud,ak,cj,c5,c6,wc,ba,bb,SB,seval,NE,NJ,NF]
  refine Ngr (f:=PV SL to x.1.frm (x.2-x.1.cut)) (t:=PV SL to x.1.dst (x.2+x.1.mins)) J1 a8 (by omega) (by omega) (fun v=>by have:=e5 v;omega) (by omega) fun o ap ae bl F B a5=>?_
  have am:=F.hdr
  obtain ⟨kn,I⟩:∃kn,kn=2*(l++Tu SL to done).length:=⟨_,rfl⟩
  obtain ⟨n2,ac⟩:∃n2,n2=2*((l++Tu SL to done)++[(⟨PV SL to x.1.dst (x.2+x.1.mins),PV SL to x.1.frm (x.2-x.1.cut),x.1.grams,0⟩:Pr)]).length:=⟨_,rfl⟩
  obtain ⟨no,bc⟩:∃no,no=(Vg g (PV SL to x.1.frm (x.2-x.1.cut)) (PV SL to x.1.dst (x.2+x.1.mins)) (2*(l++Tu SL to done).length)).length:=⟨_,rfl⟩
  rw [<-ac,<-bc] at am
  rw [<-I]
  have ao:∀b,b<Bo->b≠A->NC o b=NC G b:=fun b k hb2=>(B b (.inl ⟨k,hb2⟩)).trans (kL b k hb2 _)
  have ck:∀Z,NC (o++Z) Bg=Vc [Vp A]:=fun Z=>(NZ.refl.app).cells ((ao _ hb.1.1 hb.1.2).trans hG)
  have bu:∀Z,NC (o++Z) G'.length=Vc [Vi x.1.id,Vi x.1.frm,Vi x.1.dst,Vi x.1.dep,Vi x.1.mins,Vi x.1.cut,Vi x.1.grams,.int .u8 x.1.days]:=fun Z=>(NZ.refl.app).cells ((B _ (.inr (by simp))).trans (by rw [c5];rfl))
  have bw:∀Z,NC (o++Z) (G'.length+1)=Vc [Vi x.2,Vi (x.2+x.1.mins)]:=fun Z=>(NZ.refl.app).cells ((B _ (.inr (by simp))).trans (by rw [c6];rfl))
  have ce:=fun Z=>(NZ.refl.app (X:=Z)).cells am
  have aq:Own (G.length+2) o Vt 11 pw cw (Tz (2*l.length) done):=RN D fun a u=>by
   have h1:=D.block u
   have h2:=B a.block (.inr (by simp [NT.2 ⟨a,u,rfl⟩]))
   rw [h2];exact kY _ (by omega) _ h1.2
  simp only [Nb,Nj,Nl] at a5
  have dd:lim<=o.length:=by omega
  have J:(Tz (2*l.length) done).length=done.length:=WH
  obtain ⟨S,p',c',bo,O4,C4,K4,dr,cy,_⟩:=Own.moreD aq (lim':=lim) (d:=o.length+1) (bytes:=88) (by omega) SK (by decide) [(x,kn)] (by rw [J];simp;unfold PM;omega) (by rw [J];simp;omega) (by omega) [Vc (Vt (x,kn)),.dead] (by omega) (by simp) (x:=.slice (Sa o.length) 1 1) (str:=false)
   (QG (m:=[(x,kn)]) (Sl.row (ro:=false) SK (by rw [NN];rfl))) rfl
  have hp:=cy (by simp)
  subst hp
  have au:VQ lim (some (o.length+1)) 11 88 false (.slice pw done.length cw) (.slice (Sa o.length) 1 1) (o++[Vc [Vi x.1.id,Vi x.1.frm,Vi x.1.dst,Vi x.1.dep,Vi x.1.mins,Vi x.1.cut,Vi x.1.grams,.int .u8 x.1.days,Vi x.2,Vi (x.2+x.1.mins),Vi ((kn:Nat):Int)],.dead])=some (.slice (Sa (o.length+1)) (done.length+1) c',S++[]):=by
   have:=bo
   rw [J] at this
   rw [<-J,Own.appL aq,J];exact this
  rw [Na] at O4 K4
  have bh:NC S A=_:=(K4 A (by have:=ND F.hdr;omega) fun a u=>by have:=(D.block u).1;omega).trans am
  have c1:NC S Bg=_:=(K4 Bg (by have:=ND F.hdr;omega) fun a u=>by have:=(D.block u).1;omega).trans ((ao _ hb.1.1 hb.1.2).trans hG)
  have bm:=(O4.block rfl).2
  simp only at bm
  have c2:NC (((S++[]).set o.length Blk.dead).set (o.length+1) Blk.dead) Bg=Vc [Vp A]:=by rw [OQ (by omega),OQ (by omega),Na];exact c1
  have um:((((S++[]).set o.length Blk.dead).set (o.length+1) Blk.dead).set o.length (NC (S++[]) o.length)).set (o.length+1) (NC (S++[]) (o.length+1))=S++[]:=Sw o.length [0,1] (S++[])
  have c0:=fun Z=>(NZ.refl.app (X:=Z)).cells bh
  obtain ⟨G5,bp,k5,m5⟩:=OO (ND bh) (Vc [vp,.map (some M),.slice ap n2 ae,.slice (Sa Bo) no co,v4,v5,.slice (Sa (o.length+1)) (done.length+1) c',vmost])
  simp only [f9,ck,bu,bw,ce,c2,um,au,c0,a8,bp,SB,seval,NJ,place,NA]
  have da:=ND F.hdr
  have U:∀b∈PZ pw,G.length+2<=b/\b<G'.length:=fun b hb=>by obtain ⟨a,u,rfl⟩:=NT.1 hb;exact D.block u
  have bk:∀b,b∉PZ pw->∀a,pw=some a->b≠a.block:=fun b hb a u e=>hb (NT.2 ⟨a,u,e.symm⟩)
  have cz:∀b∈X,b<G.length:=fun b hb=>(h.os.sy b (by simp [hb])).1
  have y5:NC G5 (G.length+1)=.loop ⟨1,none,fr,155,[104,105],Wy,Wx⟩:=by
   rw [m5.other _ (by omega),K4 _ (by omega) (bk _ fun C=>by have:=U _ C;omega),B _ (.inr (by simp)),NK (by omega)];exact bt
  have dg:=m5.len
  obtain ⟨G6,bq,k6,m6⟩:=OO (G:=G5) (R:=G.length+1) (by omega) (.loop ⟨0,none,fr,155,[104,105],Wy,Wx⟩)
  have c3:=fun X=>(NZ.refl.app (X:=X)).get' y5 (by omega)
  have dh:=m6.len
  refine NI ?_
  simp only [c3,bq,show lim<=G.length+1 by omega,SB,seval]
  have kG:∀b,b<o.length->b≠A->b≠G.length+1->b∉PZ pw->∀Z,NC (G6++Z) b=NC o b:=fun b k hb2 q ai Z=>by
   rw [NK (by omega),m6.other b q,m5.other b hb2];exact K4 b k (bk b ai)
  have kX:∀b,b∈(G.length::(G.length+1)::(X++Xr))->b∉PZ pw->b<G'.length->b≠A->∀Z,NC (G6++Z) b=NC G' b:=fun b k hb2 q ai Z=>by
   by_cases aj:b=G.length+1
   ·subst aj;rw [NK (by omega),k6,e9]
   ·rw [kG b (by omega) ai aj hb2 Z,B b (.inr (by simp only [Nu,Nw] at k⊢;rcases k with h | h | h | h<;>simp [h])),kY b aj _ q]
  have ag:l++Tu SL to (done++[x])=(l++Tu SL to done)++[⟨PV SL to x.1.dst (x.2+x.1.mins),PV SL to x.1.frm (x.2-x.1.cut),x.1.grams,0⟩]:=by rw [Noj,Nr]
  have br:Tz (2*l.length) (done++[x])=Tz (2*l.length) done++[(x,kn)]:=by
   rw [Nbj,I,Nb,WI,Nat.mul_add]
  have an:=fun b (hb:b∈(G.length::(G.length+1)::(PZ pw++(X++Xr))))=>e2.os.sy b (N1 _ hb)
  have O6:Own (G.length+2) (G6++[]) Vt 11 (Sa (o.length+1)) c' (Tz (2*l.length) done++[(x,kn)]):=((O4.mut m5 fun a u e=>by cases u;simp only at e;omega).mut m6 fun a u e=>by cases u;simp only at e;omega).app _
  have bx:NC (G6++[]) A=Vc [vp,.map (some M),.slice ap (2*(l++Tu SL to (done++[x])).length) ae,.slice (Sa Bo) (Vg g (PV SL to x.1.frm (x.2-x.1.cut)) (PV SL to x.1.dst (x.2+x.1.mins)) kn).length co,v4,v5,.slice (Sa (o.length+1)) (done++[x]).length c',vmost]:=by
   rw [NK (by omega),m6.other A (by omega),k5,ag,Nb (as:=done),<-ac,I,<-bc];rfl
  have V:=F
  rw [<-I,<-ag] at V
  refine ⟨⟨done++[x],ap,ae,bl,Vg g (PV SL to x.1.frm (x.2-x.1.cut)) (PV SL to x.1.dst (x.2+x.1.mins)) kn,Sa (o.length+1),c',by rw [Nr];exact e1,V.sim bx (fun b k hb2 q=>?_) (by simp;omega) (fun b hb=>?_), ?_,by rw [WQ];exact e4,fun v=>?_,by rw [br];exact O6,fun b hb C=>?_, ?_, ?_,fun b k hb2=>?_,by omega⟩,by omega,fun j W=>?_⟩
  ·simp only [Nu,Nw,not_or] at q
   exact kG b hb2 (by omega) q.2.2.2.1 q.2.2.2.2.1 _
  ·simp only [Nu,Nw,PZ,On,or_false] at hb
   rcases hb with rfl | rfl | rfl | hb | hb
   ·exact ⟨by simp;omega,.inl (by simp)⟩
   ·exact ⟨by simp;omega,.inl (by simp)⟩
   ·exact ⟨by simp;omega,.inr (.inl (by omega))⟩
   ·have:=cz b hb
    exact ⟨by simp;omega,.inl (by simp [hb])⟩
   ·have:=(an b (by simp [hb])).1
    exact ⟨by simp;omega,.inl (by simp [hb])⟩
  ·rw [ag,I];exact e3.join (by omega) (by omega)
  ·have:=XX (out:=g) (f:=PV SL to x.1.frm (x.2-x.1.cut)) (t:=PV SL to x.1.dst (x.2+x.1.mins)) (i:=kn) (v:=v) (by omega) (by omega)
   have:=e5 v
   have h1:(Tu SL to (done++[x])).length=(Tu SL to done).length+1:=by rw [WI,WI,Nb];rfl
   rw [Nb] at this
   rw [h1];omega
  ·simp only [PZ,Ni] at hb
   have:=(an b (by simp [C])).1
   omega
  ·exact (kX _ (by simp) (fun C=>by have:=U _ C;omega) (by omega) (by omega) _).trans e8
  ·exact (kX _ (by simp) (fun C=>by have:=U _ C;omega) (by omega) (by omega) _).trans e9
  ·have nb:b∉PZ pw:=fun C=>by have:=U _ C;omega
   rcases hb2 with hb2 | hb2
   ·rw [kG b (by omega) hb2.2 (by omega) nb];exact ao b hb2.1 hb2.2
   ·rw [kX b (by simp [hb2]) nb (by omega) (h.ax b hb2).2];exact z b k (.inr hb2)
  ·exact kX j (by simp [W]) (fun C=>e7 j C W) (an j (by simp [W])).1 (e2.ax j (by simp [W])).2 _
 ·intro j W;have:=(ah j W).1;simp;omega
 ·refine ⟨[],pa,ca,ols,out,none,0,rfl, ?_, ?_,cx, ?_,.nil,fun b hb=>by simp [PZ] at hb,NN,OL,fun b hb _=>O b hb,by simp⟩
  ·have:l++Tu SL to []=l:=by unfold Tu;simp
   rw [this]
   refine h.sim ((O A bz).trans h.hdr) (fun b _ hb _=>O b hb) (by simp) fun b hb=>?_
   simp only [Nu,Nw,PZ,On,false_or] at hb
   rcases hb with rfl | rfl | hb | hb
   ·exact ⟨by simp,.inr (.inl (by omega))⟩
   ·exact ⟨by simp,.inr (.inl (by omega))⟩
   ·have:=(h.os.sy b (by simp [hb])).1
    exact ⟨by simp;omega,.inl hb⟩
   ·obtain ⟨k1,k2⟩:=ah b hb
    rcases k2 with k2 | k2
    ·exact ⟨by simp;omega,.inr (.inr k2)⟩
    ·exact ⟨by simp;omega,.inl k2⟩
  ·have:l++Tu SL to []=l:=by unfold Tu;simp
   rw [this];exact hO
  ·have:l++Tu SL to []=l:=by unfold Tu;simp
   rw [this];exact cu
 ·rintro G' ⟨done,s,r,n,g,pw,cw,e1,e2,e3,e4,e5,D,e7,e8,e9,z,e11⟩ dp aa
  rw [Na] at e1
  subst e1
  rw [Zi e9,Ngx]
  show PI E a39 lim (K++[.mark G.length]) fr _ _
  have w:Mut G' (G'.set (G.length+1) .dead) (G.length+1):=⟨by simp,fun j W=>OQ W⟩
  have y:=ND e2.hdr
  refine hR _ s r n g pw cw (e2.sim ((w.other A (by omega)).trans e2.hdr) (fun b k hb2 q=>w.other b (fun e=>q (by simp [e]))) (by rw [w.len];omega) fun b hb=>?_) e3 e4 e5 (D.mut w fun a u=>by have:=(D.block u).1;omega) (fun b k hb2=>by rw [w.other b (by omega)];exact z b k hb2) (by rw [w.len];omega) ((w.other G.length (by omega)).trans e8)
  rw [w.len]
  rcases Nw.1 hb with hb | hb
  ·have:=(e2.os.sy b (by simp [hb])).1
   exact ⟨this,.inl (by simp [hb])⟩
  ·have:=(e2.os.sy b (by simp [hb])).1
   exact ⟨this,.inl (by simp [hb])⟩
theorem No4 [OB] {lim A Bn nn cn co:Nat} {G:NB} {v0 v1 v2 v4 v6 v7:Value} {po:Option Addr} {ols:List Yo} {out:List (List Nat)} {nx:List Nat} {g:Int} {Q:Value->NB->Prop}
  (o:NC G A=Vc [v0,v1,v2,.slice po out.length co,v4,.slice (Sa Bn) nn cn,v6,v7]) (l:Sl G Ncw 1 po ols) (b:ols.length=out.length) (a:(gt ols 0).2.1=0) (c:0<out.length) (p:NC G Bn=Vc (nx.flatMap Tq)) (h:nx.length=nn) (f:0<nn)
  (r:∀Z,Q (Vi 0) (G++Z)) :
  NR E false lim 64 [Vp A,Vi 0,Vi g] G Q:=by
 refine Te (by decide) e64 rfl ?_
 rw [b64,c64]
 simp only [n64,Nn (show ¬(0:Int)=1 by decide),SB,seval,NJ,NF,reduceCtorEq,NH]
 refine NM (fun _:Unit=>0) (fun _ fr G'=>fr 0=Vp A/\fr 1=Vi 0/\fr 8=Vi 0/\∃Z,G'=G++Z) () ⟨rfl,rfl,rfl,_,rfl⟩ ?_
 rintro _ fr G' ⟨m,f1,f8,Z,rfl⟩ q
 rw [NQ Nuo.eq_1]
 refine NI ?_
 have d:=fun X=>(NZ.refl.app (X:=X)).cells o
 have k:Sl G Tq 1 (Sa Bn) nx:=Sl.row RZ p
 have s:=Nqh (i:=0) k (by omega)
 have t:∀(H1:NB),Vh 1 (.slice (Sa Bn) nn cn) (Vi 0) H1=some (.pointer (some (SX (Sa Bn) 1 0)),H1):=fun H1=>QN (i:=0) (n:=nn) k f h cn .i64 H1
 have j:=Nt8 (i:=0) l (by omega)
 have u:∀(H1:NB),Vh 1 (.slice po out.length co) (Vi 0) H1=some (.pointer (some (SX po 1 0)),H1):=fun H1=>QN (i:=0) (n:=out.length) l c b co .i64 H1
 rw [a] at j
 have e:¬((gt nx 0:Nat):Int)<0:=by omega
 simp only [n64,r64,m,f1,f8,d,s,t,j,u,e,SB,seval,NJ,NF,reduceCtorEq,NG]
 exact r _
theorem JS.stays {A Bo Ba Bn Lb nn cn cv ca co:Nat} {X:List Nat} {G:NB} {vp vm vw vmost:Value} {ols:List Yo} {out:List (List Nat)} {l:List Pr} {L:List Int} (h:JS A Bo X G vp vm (.slice (Sa Lb) L.length cv) (.slice (Sa Bn) nn cn) vw vmost (Sa Ba) ca co ols out l) (m:Lb∈X) (b:Bn∈X) (p:Lb≠Bn) (r:NC G Lb=Vc (L.flatMap encI)) (n:L.length=out.length) :
  Stays Ba Bn A G [vp,vm,.slice (Sa Ba) (2*l.length) ca,.slice (Sa Bo) out.length co,.slice (Sa Lb) L.length cv,.slice (Sa Bn) nn cn,vw,vmost] (Sa Lb) (Sa Bo) cv co ols out L (2*l.length) ca nn cn:=by
 have s:=h.ab
 have j:=h.ar.block rfl
 simp only at j
 have ma:Ba∈PZ (some (⟨Ba,0,none⟩:Addr)):=by simp [PZ]
 have g:=h.ax Lb m
 have i:=h.ax Bn b
 have q:=h.os.sy Ba (Ny _ ma)
 have d:=h.os.sy Bn (N1 _ b)
 have k:Lb≠Ba:=fun e=>g.1 (by rw [e];exact ma)
 refine ⟨⟨rfl,rfl,rfl,rfl,rfl⟩,fun G' f=>⟨f.cells h.hdr ?_, ?_, ?_,fun v c=>?_⟩,⟨h.os.len,n⟩,fun v c=>(h.os.us v c).2⟩
 ·simp only [Nu,On,or_false,not_or]
  exact ⟨by omega,fun e=>i.2 e.symm⟩
 ·exact Sl.row (ro:=false) OU (f.cells r (by simp only [Nu,On,or_false,not_or];exact ⟨k,p⟩))
 ·exact Sl.row (ro:=false) VK (f.cells h.os.ou (by simp only [Nu,On,or_false,not_or];exact ⟨by omega,fun e=>d.2.1 e.symm⟩))
 ·have ho:=(h.os.us v c).1
  exact (RN ho fun a o=>f.other _ (ho.block o).2 (by
   simp only [Nu,On,or_false,not_or]
   exact ⟨q.2.2 v a c o,d.2.2 v a c o⟩)).sl RZ
theorem Ndk {PL:List (Int×Int)} {p q:Int×Int} {w:Bool}:q∈UA PL p w↔q∈PL\/(w=true/\q=p):=by
 unfold UA
 split
 ·rename_i h
  rw [Nw,Ni]
  constructor
  ·rintro (h1 | h1)
   ·exact .inl h1
   ·exact .inr ⟨h.1,h1⟩
  ·rintro (h1 | h1)
   ·exact .inl h1
   ·exact .inr h1.2
 ·rename_i h
  constructor
  ·exact .inl
  ·rintro (h1 | ⟨h1,rfl⟩)
   ·exact h1
   ·exact Ns fun hn=>h ⟨h1,hn⟩
theorem ZZ {to dl:Int} {q:Int×Int}:∀{s:List Flow.Src} {PL:List (Int×Int)},q∈WE to dl PL s↔q∈PL\/∃x∈s,x.pl≠to/\x.rd<=dl/\q=(x.pl,x.rd)
 | [],PL=>by simp [WE]
 | x::s,PL=>by
   have ih:=ZZ (to:=to) (dl:=dl) (q:=q) (s:=s) (PL:=UA PL (x.pl,x.rd) (decide (x.pl≠to)&&decide (x.rd<=dl)))
   change q∈WE to dl (UA PL (x.pl,x.rd) (decide (x.pl≠to)&&decide (x.rd<=dl))) s↔_
   rw [ih,Ndk]
   simp only [N9,N3,Nu]
   constructor
   ·rintro ((h | ⟨⟨h1,h2⟩,a⟩) | ⟨y,h1,h2⟩)
    ·exact .inl h
    ·exact .inr ⟨x,.inl rfl,h1,h2,a⟩
    ·exact .inr ⟨y,.inr h1,h2⟩
   ·rintro (h | ⟨y,rfl | h1,h2,a,b⟩)
    ·exact .inl (.inl h)
    ·exact .inl (.inr ⟨⟨h2,a⟩,b⟩)
    ·exact .inr ⟨y,h1,h2,a,b⟩
theorem Mc {to:Int} {q:Int×Int}:∀{C:List (Leg×Int)} {PL:List (Int×Int)},q∈XG to PL C↔q∈PL\/∃c∈C,q=(c.1.frm,c.2-c.1.cut)\/(c.1.dst≠to/\q=(c.1.dst,c.2+c.1.mins))
 | [],PL=>by simp [XG]
 | c::C,PL=>by
   have ih:=Mc (to:=to) (q:=q) (C:=C) (PL:=UA (UA PL (c.1.frm,c.2-c.1.cut) true) (c.1.dst,c.2+c.1.mins) (decide (c.1.dst≠to)))
   change q∈XG to (UA (UA PL (c.1.frm,c.2-c.1.cut) true) (c.1.dst,c.2+c.1.mins) (decide (c.1.dst≠to))) C↔_
   rw [ih,Ndk,Ndk]
   simp only [N3,Rt,Nu]
   constructor
   ·rintro (((h | h) | h) | ⟨y,h1,h2⟩)
    ·exact .inl h
    ·exact .inr ⟨c,.inl rfl,.inl h⟩
    ·exact .inr ⟨c,.inl rfl,.inr h⟩
    ·exact .inr ⟨y,.inr h1,h2⟩
   ·rintro (h | ⟨y,rfl | h1,h2⟩)
    ·exact .inl (.inl (.inl h))
    ·rcases h2 with h2 | h2
     ·exact .inl (.inl (.inr h2))
     ·exact .inl (.inr h2)
    ·exact .inr ⟨y,h1,h2⟩
theorem Nph {to dl:Int} {s:List Flow.Src} {C:List (Leg×Int)} {SL:List (Int×Int)} (hp:SL.Perm (XG to (WE to dl [] s) C)) (e:SL.Pairwise Vm) (b:∀c∈C,c.1.frm≠to):PlOk SL to dl s C:=by
 have a:∀q,q∈SL↔(∃x∈s,x.pl≠to/\x.rd<=dl/\q=(x.pl,x.rd))\/∃c∈C,q=(c.1.frm,c.2-c.1.cut)\/(c.1.dst≠to/\q=(c.1.dst,c.2+c.1.mins)):=fun q=>by
  rw [hp.mem_iff,Mc,ZZ];simp
 refine ⟨e,fun q d=>?_,fun x f h1 h2=>(a _).2 (.inl ⟨x,f,h2,h1,rfl⟩),fun c hc=>⟨b c hc,(a _).2 (.inr ⟨c,hc,.inl rfl⟩)⟩,fun c hc h1=>(a _).2 (.inr ⟨c,hc,.inr ⟨h1,rfl⟩⟩)⟩
 rcases (a q).1 d with ⟨x,_,h1,_,rfl⟩ | ⟨c,hc,rfl | ⟨h1,rfl⟩⟩
 ·exact h1
 ·exact b c hc
 ·exact h1
theorem Npi {to dl:Int} {s:List Flow.Src} {C:List (Leg×Int)} {SL:List (Int×Int)} (hp:SL.Perm (XG to (WE to dl [] s) C)) (e:∀x∈s,0<=x.rd/\x.rd<=OP) (a:∀c∈C,Fine c.1/\0<=c.2/\c.2+c.1.mins<=OP):∀q∈SL,-10080<=q.2/\q.2<=OP:=fun q d=>by
 have h:=hp.mem_iff.1 d
 rw [Mc,ZZ] at h
 rcases h with (h | ⟨x,f,_,_,rfl⟩) | ⟨c,hc,rfl | ⟨_,rfl⟩⟩
 ·cases h
 ·have:=e x f;show -10080<=x.rd/\_;omega
 ·obtain ⟨h1,h2,b⟩:=a c hc
  unfold Fine at h1
  show -10080<=c.2-c.1.cut/\c.2-c.1.cut<=OP
  omega
 ·obtain ⟨h1,h2,b⟩:=a c hc
  unfold Fine at h1
  show -10080<=c.2+c.1.mins/\c.2+c.1.mins<=OP
  omega
theorem No3 [OB] {lim A Bo Lb Bn cv cn ca co:Nat} {X:List Nat} {G:NB} {vp vm vw vmost:Value} {pa:Option Addr} {ols:List Yo} {out:List (List Nat)} {L:List Int} {l:List Pr} {M:Int} {Q:Value->NB->Prop}
  (h:JS A Bo X G vp vm (.slice (Sa Lb) L.length cv) (.slice (Sa Bn) out.length cn) vw vmost pa ca co ols out l) (x:Lb∈X) (f:Bn∈X) (N:Lb≠Bn) (U:NC G Lb=Vc (L.flatMap encI)) (y:L.length=out.length) (R:NC G Bn=Vc ((List.replicate out.length 0).flatMap Tq))
  (Y:lim<=A) (J:lim<=Bn) (V:∀v,RJ L v<=M) (K:∀v,-20000<=RJ L v) (S:OutOk l out) (c:0<out.length) (q:out.length<2 ^ 40) (I:l.length<2 ^ 40) (p:∀u,(gt out u).length<2 ^ 40) (hr:∀i,i / 2<l.length->0<=rm l i/\rm l i+rm l (tw i)<=VW)
  (T:∀s l' nx' G',Sent out (RJ L) 0 VW l (List.replicate out.length 0) s l' nx'->JS A Bo X G' vp vm (.slice (Sa Lb) L.length cv) (.slice (Sa Bn) out.length cn) vw vmost pa ca co ols out l'->(∀b,b<G.length->b∉PZ pa->b≠Bn->NC G' b=NC G b)->G.length<=G'.length->Q (Vi s) G') :
  NR E false lim 64 [Vp A,Vi 0,Vi VW] G Q:=by
 have B:=h.ab
 have d:Uz out (RJ L) l (List.replicate out.length 0):=fun v k h1 h2=>by
  exfalso
  unfold gt at h1
  rw [Nc,P0] at h1
  split at h1<;>simp at h1
 rcases h.ar with ⟨e3,e1,e2⟩ | ⟨Ba,e1,e2,e3,e4⟩
 ·subst e1
  have n:l=[]:=by
   have:=RV (l:=l)
   rw [e3] at this
   exact List.length_eq_zero_iff.1 (by simp at this;omega)
  subst n
  have o:gt out 0=[]:=by
   apply Ns
   intro hc
   obtain ⟨i,r,H⟩:=List.exists_cons_of_ne_nil hc
   have:=(S.ok 0 i (by unfold Flow.outs;rw [H];exact Nm)).1
   simp at this
  have g:Sent out (RJ L) 0 VW [] (List.replicate out.length 0) 0 [] (List.replicate out.length 0):=(Mid.start out (RJ L) (by decide) (fun i hi=>by simp at hi) d).stop (by decide) (by unfold Flow.outs;rw [o];simp)
  refine No4 (v0:=vp) h.hdr (Sl.row (ro:=false) VK h.os.ou) h.os.len ?_ c R (by simp) c fun Z=>?_
  ·rw [(h.os.us 0 c).2,o];rfl
  ·exact T 0 [] _ (G++Z) g (h.app Z) (fun b C _ _=>NK C) (by simp)
 subst e1
 have t:=h.stays x f N U y
 refine Nxl (Ba:=Ba) (Bn:=Bn) (M:=M) (by omega) J (fun e=>(h.ax Bn f).1 (by simp [PZ,e])) V K q ((M-RJ L 0).toNat+1) 0 VW l (List.replicate out.length 0) G Q (by omega) c (by decide) (Oa _) S d hr (by simp) (by simp) rfl I p (fun u=>?_) t e3 R fun s l' nx' G' hS j hB W=>?_
 ·unfold gt
  rw [Nc,P0]
  split<;>simp
 ·have m:=hS.same.len
  refine T s l' nx' G' hS ⟨?_,.inr ⟨Ba,rfl,e2,hB,e4⟩, ?_,B,h.ax⟩ (fun b C D F=>?_) j.len
  ·rw [m];exact (t.keep G' j).1
  ·have P:=h.os.sy Ba (Ny _ (by simp [PZ]))
   have w:=h.os.sy Bn (N1 _ f)
   refine h.os.sim (j.other Bo (ND h.os.ou) ?_) (fun u a O z=>j.other _ ((h.os.us u O).1.block z).2 ?_) j.len
   ·simp only [Nu,On,or_false,not_or];exact ⟨by omega,fun e=>w.2.1 e.symm⟩
   ·simp only [Nu,On,or_false,not_or];exact ⟨P.2.2 u a O z,w.2.2 u a O z⟩
  ·exact j.other b C (by simp only [Nu,On,or_false,not_or];exact ⟨fun e=>D (by simp [PZ,e]),F⟩)
theorem Nkk [OB] {lim A Bo ca co:Nat} {X:List Nat} {G:NB} {vp vm v4 v5 vw vmost:Value} {pa:Option Addr} {ols:List Yo} {out:List (List Nat)} {l:List Pr} {Q:Value->NB->Prop}
  (h:JS A Bo X G vp vm v4 v5 vw vmost pa ca co ols out l) (t:lim<=A) (K:OutOk l out) (h2:2<=out.length) (j:out.length<2 ^ 28) (i:∀v,(gt out v).length<2 ^ 40) (w:l.length<2 ^ 40)
  (M:∀G' Lb Bn cv cn L,JS A Bo (Lb::Bn::X) G' vp vm (.slice (Sa Lb) out.length cv) (.slice (Sa Bn) out.length cn) vw vmost pa ca co ols out l->Lb≠Bn->G.length<=Lb->G.length<=Bn->NC G' Lb=Vc (L.flatMap encI)->NC G' Bn=Vc ((List.replicate out.length 0).flatMap Tq)->L.length=out.length->LevOk l out (RJ L)->(∀v,-1<=RJ L v/\RJ L v<out.length)->Chg [A] G G'->Q (.bool (decide (0<=RJ L 1))) G') :
  NR E false lim 63 [Vp A] G Q:=by
 have p:=h.ab
 have J:=ND h.hdr
 have k:=ND h.os.ou
 refine Nsv (po:=Sa Bo) (ols:=ols) (pa:=pa) h.hdr t (by omega) (fun G' d=>⟨?_,fun v z=>?_, ?_⟩) h.os.len (fun v z=>(h.os.us v z).2) K h2 j i w fun G' Lb Bn cv cn L d h1 H y I D F n g r=>?_
 ·exact Sl.row (ro:=false) VK (d.cells h.os.ou (by rw [Ni];omega))
 ·have ho:=(h.os.us v z).1
  exact (RN ho fun a c=>d.other _ (ho.block c).2 (by rw [Ni];have:=(ho.block c).1;omega)).sl RZ
 ·exact (RN h.ar fun a c=>d.other _ (h.ar.block c).2 (by rw [Ni];have:=(h.ar.block c).1;omega)).sl PO
 ·refine M G' Lb Bn cv cn L ?_ y h1 H D F n g r d
  have hl:=d.len
  have m:=ND D
  have o:=ND F
  have s:∀b,b<G.length->b≠A->NC G' b=NC G b:=fun b hb q=>d.other b hb (by rw [Ni];exact q)
  refine ⟨I,RN h.ar fun a c=>s _ (h.ar.block c).2 (by have:=(h.ar.block c).1;omega),(h.os.sim (s Bo k (by omega)) (fun u a f c=>s _ ((h.os.us u f).1.block c).2 (by have:=((h.os.us u f).1.block c).1;omega)) hl).withY fun b hb=>?_,p,fun b hb=>?_⟩
  ·rcases Nw.1 hb with hb | hb
   ·obtain ⟨N,B,C⟩:=h.os.sy b (Ny _ hb)
    exact ⟨by omega,B,C⟩
   ·rw [Nu,Nu] at hb
    rcases hb with rfl | rfl | hb
    ·exact ⟨m,by omega,fun u a f c=>by have:=((h.os.us u f).1.block c).2;omega⟩
    ·exact ⟨o,by omega,fun u a f c=>by have:=((h.os.us u f).1.block c).2;omega⟩
    ·obtain ⟨N,B,C⟩:=h.os.sy b (N1 _ hb)
     exact ⟨by omega,B,C⟩
  ·rw [Nu,Nu] at hb
   rcases hb with rfl | rfl | hb
   ·exact ⟨fun x=>by obtain ⟨a,c,e⟩:=NT.1 x;have:=(h.ar.block c).2;omega,by omega⟩
   ·exact ⟨fun x=>by obtain ⟨a,c,e⟩:=NT.1 x;have:=(h.ar.block c).2;omega,by omega⟩
   ·exact h.ax b hb
theorem Nai {ro:Bool}:∀{q:List (Int×Int)},Tw (.cells ro (q.flatMap enc2))=false
 | []=>rfl
 | x::q=>by
   have:=Nai (ro:=ro) (q:=q)
   rw [N2]
   show Tw (.cells ro ([Vi x.1,Vi x.2]++q.flatMap enc2))=false
   exact this
theorem Nah {ro:Bool}:∀{q:List Nat},Tw (.cells ro (q.flatMap Tq))=false
 | []=>rfl
 | x::q=>by
   have:=Nah (ro:=ro) (q:=q)
   rw [N2]
   show Tw (.cells ro ([Vi x]++q.flatMap Tq))=false
   exact this
theorem rm_nn {n:Nat} {l:List Pr} (h:IsFlow n l) {i:Nat} (hi:i / 2<l.length):0<=rm l i:=by
 have:=h.nn _ (PK hi)
 unfold rm
 split<;>omega
theorem OutOk.alike {l l':List Pr} {out:List (List Nat)} (h:OutOk l out) (k:Flow.Alike l l'):OutOk l' out:=
 ⟨fun v i hi=>by
  obtain ⟨h1,h2,a⟩:=h.ok v i hi
  rw [k.len,k.tl,k.hd];exact ⟨h1,h2,a⟩,fun i hi=>by rw [k.tl];exact h.all i (by rw [k.len] at hi;exact hi)⟩
structure FSq (A Bo Lb Bn cv cn co:Nat) (X:List Nat) (G:NB) (vp vm vw:Value) (pa:Option Addr) (ca:Nat) (ols:List Yo) (out:List (List Nat)) (L:List Int) (l:List Pr):Prop where
 js:JS A Bo X G vp vm (.slice (Sa Lb) L.length cv) (.slice (Sa Bn) out.length cn) vw (Vi (Flow.exc 1 l)) pa ca co ols out l
 xl:Lb∈X
 xn:Bn∈X
 ne:Lb≠Bn
 lb:NC G Lb=Vc (L.flatMap encI)
 len:L.length=out.length
 nb:NC G Bn=Vc ((List.replicate out.length 0).flatMap Tq)
structure MI (lim A Bo co ca n Bn0:Nat) (X:List Nat) (G:NB) (vp vm vw:Value) (pa:Option Addr) (ols:List Yo) (out:List (List Nat)) (l0:List Pr) (k:Nat) (X':List Nat) (Lb Bn cv cn:Nat) (L:List Int) (l:List Pr) (G':NB):Prop where
 sub:∀b∈X,b∈X'
 fs:FSq A Bo Lb Bn cv cn co X' G' vp vm vw pa ca ols out L l
 lims:lim<=Lb/\lim<=Bn
 al:Flow.Alike l0 l
 fl:IsFlow n l
 lv:∀v,-20000<=RJ L v/\RJ L v<=1051898401
 ok:k≠0->LevOk l out (RJ L)
 one:k=1->0<=RJ L 1
 two:k=2->RJ L 1<0
 pos:0<=Flow.exc 1 l
 keep:∀b,b<G.length->b≠A->b∉PZ pa->b≠Bn0->NC G' b=NC G b
 glen:G.length<=G'.length
 bn:Bn=Bn0\/G.length<=Bn
theorem Nx8 [OB] {lim A Bo Lb Bn Bt Bg Bf Bnn cv cn co ca ns cs n:Nat} {X:List Nat} {G:NB} {fr:Nat->Value} {vp vm vw:Value} {pa ps:Option Addr} {ols:List Yo} {out:List (List Nat)} {L:List Int} {l0:List Pr} {dl:Int} {K:List AItem} {Q:Value->NB->Prop}
  (hf:BF fr ps ns cs dl Bnn Bt Bg Bf) (h:FSq A Bo Lb Bn cv cn co X G vp vm vw pa ca ols out L l0) (J:lim<=A) (be:lim<=Lb/\lim<=Bn) (hO:OutOk l0 out) (a8:IsFlow n l0) (h2:2<=out.length) (aj:out.length<2 ^ 28) (bx:l0.length<2 ^ 27) (C:∀v,(gt out v).length<2 ^ 40)
  (ac:∀i,i / 2<l0.length->rm l0 i+rm l0 (tw i)<=VW) (a1:∀v,-20000<=RJ L v/\RJ L v<=1051898401) {S:Nat->Bool} (a5:S 0=true) (a6:S 1=false) (aa:Flow.cut S l0<VW) (bg:0<=Flow.exc 1 l0)
  (hG:NC G Bg=Vc [Vp A]) (l:Bg<G.length/\Bg≠A/\Bg∉PZ pa/\Bg≠Bn) (f:fr 20=.bool true)
  (hR:∀fr' G' X' aq ap av au L' l',BF fr' ps ns cs dl Bnn Bt Bg Bf->(∀b∈X,b∈X')->FSq A Bo aq ap av au co X' G' vp vm vw pa ca ols out L' l'->Flow.Alike l0 l'->IsFlow n l'->LevOk l' out (RJ L')->RJ L' 1<0->(∀b,b<G.length->b≠A->b∉PZ pa->b≠Bn->NC G' b=NC G b)->G.length<=G'.length->PI E a39 lim K fr' G' Q) :
  PI E a39 lim (.code (.loop Nuz)::.inBlock 8::K) fr G Q:=by
 obtain ⟨T,Y⟩:∃T,T=Flow.cut S l0:=⟨_,rfl⟩
 have ao:VW=1152921504606846976:=rfl
 refine NM (fun z:Nat×List Nat×Nat×Nat×Nat×Nat×List Int×List Pr=>if z.1=0 then (T-Flow.exc 1 z.2.2.2.2.2.2.2).toNat+2 else if z.1=1 then (T-Flow.exc 1 z.2.2.2.2.2.2.2).toNat+1 else 0)
  (fun z fr G'=>BF fr ps ns cs dl Bnn Bt Bg Bf/\fr 20=.bool (decide (z.1<2))/\MI lim A Bo co ca n Bn X G vp vm vw pa ols out l0 z.1 z.2.1 z.2.2.1 z.2.2.2.1 z.2.2.2.2.1 z.2.2.2.2.2.1 z.2.2.2.2.2.2.1 z.2.2.2.2.2.2.2 G'/\z.1<3) (0,X,Lb,Bn,cv,cn,L,l0)
  ⟨hf,f,⟨fun b l=>l,h,be,.refl,a8,a1,fun e=>absurd rfl e,fun e=>(by cases e),fun e=>(by cases e),bg,fun b _ _ _ _=>rfl,Ng _,.inl rfl⟩,Nat.zero_lt_succ _⟩ ?_
 rintro ⟨k,N,p,o,t,q,L1,l1⟩ fr G1 ⟨hf,f,d,bb⟩ hN
 simp only at f d bb
 obtain ⟨f1,f3,f4,f6,f9,f10⟩:=hf
 rw [NQ Nuz.eq_1]
 refine NI ?_
 have br:=d.fs.js.ab
 by_cases hk:k<2
 case neg=>
  have w:k=2:=by omega
  rw [Nx hk] at f
  simp only [n39,r39,f,SB,seval,NE,NJ,NF,PW,reduceCtorEq,NH,place,NA,NG]
  refine hR _ _ N p o t q L1 l1 ⟨f1,f3,f4,f6,f9,f10⟩ d.sub ?_ d.al d.fl (d.ok (by omega)) (d.two w) ?_ ?_
  ·rw [Na];exact d.fs
  ·rw [Na];exact d.keep
  ·rw [Na];exact d.glen
 rw [No hk] at f
 have bq:=ND d.fs.js.hdr
 have bl:∀Z,NC (G1++Z) Bg=Vc [Vp A]:=fun Z=>(NZ.refl.app (X:=Z)).cells ((d.keep Bg l.1 l.2.1 l.2.2.1 l.2.2.2).trans hG)
 have kA:=fun Z=>(NZ.refl.app (X:=Z)).cells d.fs.js.hdr
 have bc:lim<=G1.length:=by omega
 obtain ⟨e1,F⟩:∃e1,e1=Flow.exc 1 l1:=⟨_,rfl⟩
 have am:=kA
 rw [<-F] at am
 have ak:Tw (Vc [vp,vm,.slice pa (2*l1.length) ca,.slice (Sa Bo) out.length co,.slice (Sa p) L1.length t,.slice (Sa o) out.length q,vw,Vi e1])=true:=by simp [Tw]
 simp only [n39,r39,f1,f3,f4,f6,f9,f10,f,bl,am,bc,ak,SB,seval,NE,NJ,NF,PW,reduceCtorEq,NH,place,NA,NG]
 simp only [Na]
 have a3:=hO.alike d.al
 refine No3 (M:=1051898401) d.fs.js d.fs.xl d.fs.xn d.fs.ne d.fs.lb d.fs.len d.fs.nb J d.lims.2 (fun v=>(d.lv v).2) (fun v=>(d.lv v).1) a3 (by omega) (by omega) (by have:=d.al.len;omega) C (fun i hi=>⟨rm_nn d.fl hi,by rw [d.al.cap i (by rw [<-d.al.len];exact hi)];exact ac i (by rw [<-d.al.len];exact hi)⟩) fun s x b5 G2 hS D w bt=>?_
 have aw:OE (List.length G1) [] (G1++[])=G1:=by rw [Na];rfl
 have I:VG G1 G2=true:=by
  refine Nh0 fun j hj=>?_
  obtain ⟨ro,c,hc⟩:=U2 hj
  refine w j (ND hc) (fun hm=>?_) fun e=>?_
  ·obtain ⟨a,ha,rfl⟩:=NT.1 hm
   rcases d.fs.js.ar with h3 | ⟨R,e5,_,e7,_⟩
   ·rw [h3.2.1] at ha;cases ha
   ·rw [e5] at ha;cases ha
    rw [e7,Nai] at hj;cases hj
  ·rw [e,d.fs.nb,Nah] at hj;cases hj
 refine ⟨by rw [aw];exact I, ?_⟩
 obtain ⟨B,bh⟩:=hS.flow d.fl
 have b0:=hS.lo
 have m:Flow.Alike l0 x:=d.al.trans hS.same
 have bm:Flow.exc 1 x<=T:=by
  have:=B.le_cut a5 a6
  rw [m.cut,<-Y] at this;exact this
 rw [<-Y] at aa
 have bo:=d.pos
 have wx:IntKind.i64.wrap (e1+s)=e1+s:=NY (by omega) (by omega)
 obtain ⟨n2,ah⟩:∃n2,n2=2*x.length:=⟨_,rfl⟩
 have H:=D.hdr
 rw [<-ah,<-F] at H
 obtain ⟨G3,e3,k3,O⟩:=OO (ND H) (Vc [vp,vm,.slice pa n2 ca,.slice (Sa Bo) out.length co,.slice (Sa p) L1.length t,.slice (Sa o) out.length q,vw,Vi (e1+s)])
 have bk:=fun Z=>(NZ.refl.app (X:=Z)).cells H
 have ad:∀b,b<G.length->b≠A->b∉PZ pa->b≠Bn->NC G2 b=NC G b:=fun b b1 P b3 b4=>by
  rw [w b (by have:=d.glen;omega) b3 (by rcases d.bn with e | e<;>omega)];exact d.keep b b1 P b3 b4
 have an:∀Z,NC (G3++Z) Bg=Vc [Vp A]:=fun Z=>(NZ.refl.app (X:=Z)).cells ((O.other Bg l.2.1).trans ((ad Bg l.1 l.2.1 l.2.2.1 l.2.2.2).trans hG))
 refine NI ?_
 simp only [n39,r39,f1,f3,f4,f6,f9,f10,f,bk,an,e3,J,wx,SB,seval,NE,NJ,NF,PW,reduceCtorEq,NH,place,NA,NG]
 simp only [Na]
 have V:JS A Bo N G3 vp vm (.slice (Sa p) L1.length t) (.slice (Sa o) out.length q) vw (Vi (Flow.exc 1 x)) pa ca co ols out x:=by
  refine D.sim (by rw [bh,<-F,<-ah];exact k3) (fun b b1 _ _=>O.other b (by omega)) (by rw [O.len];exact Ng _) fun b l=>⟨?_,.inl l⟩
  rw [O.len]
  exact (D.os.sy b (N1 _ l)).1
 refine Nkk V J (hO.alike m) h2 aj C (by have:=m.len;omega) fun G4 g Bn2 u r L2 az ai bw bz a0 a2 y ae ag U=>?_
 refine NI ?_
 simp only [n39,r39,f1,f3,f4,f6,f9,f10,f,SB,seval,NE,NJ,NF,PW,reduceCtorEq,NH,place,NA,NG]
 have bu:=O.len
 have bp:=ND V.hdr
 have ba:∀b,b<G.length->b≠A->b∉PZ pa->b≠Bn->NC G4 b=NC G b:=fun b b1 P b3 b4=>by
  rw [U.other b (by have:=d.glen;omega) (by rw [Ni];exact P),O.other b P];exact ad b b1 P b3 b4
 have ay:FSq A Bo g Bn2 u r co (g::Bn2::N) G4 vp vm vw pa ca ols out L2 x:=⟨by rw [y];exact az,by simp,by simp,ai,a0,y,a2⟩
 have W:∀k',(k'=1->0<=RJ L2 1)->(k'=2->RJ L2 1<0)->MI lim A Bo co ca n Bn X G vp vm vw pa ols out l0 k' (g::Bn2::N) g Bn2 u r L2 x G4:=fun k' q1 q2=>
  ⟨fun b l=>by simp [d.sub b l],ay,⟨by omega,by omega⟩,m,B,fun v=>by have:=ag v;omega,fun _=>ae,q1,q2,by omega,ba,by have:=d.glen;have:=U.len;omega,.inr (by have:=d.glen;omega)⟩
 by_cases hg:0<=RJ L2 1
 ·rw [No hg]
  have bf:k=1->0<s:=fun e=>hS.pos (by decide) ((d.ok (by omega)).alive (d.one e))
  refine hN (1,g::Bn2::N,g,Bn2,u,r,L2,x) _ _ ⟨⟨f1,f3,f4,f6,f9,f10⟩,show _=Value.bool true from rfl,by rw [Na];exact W 1 (fun _=>hg) (fun e=>absurd e (by decide)),by show 1<3;omega⟩ ?_
  simp only
  rcases (by omega:k=0\/k=1) with rfl | rfl
  ·simp;omega
  ·have:=bf rfl
   simp;omega
 ·rw [Nx hg]
  refine hN (2,g::Bn2::N,g,Bn2,u,r,L2,x) _ _ ⟨⟨f1,f3,f4,f6,f9,f10⟩,show _=Value.bool false from rfl,by rw [Na];exact W 2 (fun e=>absurd e (by decide)) (fun _=>by omega),by show 2<3;omega⟩ ?_
  simp only
  rcases (by omega:k=0\/k=1) with rfl | rfl<;>simp
structure Built (H G:NB) (A:Nat) (s:List Flow.Src) (C:List (Leg×Int)) (to dl:Int) (SL:List (Int×Int)) (Lv:List Int) (l:List Pr) (out:List (List Nat)) (Lb cp ca cv cw:Nat) (pp pa pw:Option Addr) (vm vo v5:Value):Prop where
 hdr:NC G A=Vc [.slice pp SL.length cp,vm,.slice pa (2*l.length) ca,vo,.slice (Sa Lb) Lv.length cv,v5,.slice pw C.length cw,Vi (Flow.exc 1 l)]
 new:H.length<=A
 keep:∀b,b<H.length->NC G b=NC H b
 len:H.length<=G.length
 sp:Sl G enc2 2 pp SL
 sa:Sl G enc2 2 pa (SF l)
 sl:NC G Lb=Vc (Lv.flatMap encI)
 sw:Sl G Vt 11 pw (Tz (2*(PG SL 2++Sj SL to dl s).length) C)
 ll:Lv.length=SL.length+2
 pl:PlOk SL to dl s C
 ns:SL.length<60000
 mem:∀q∈SL,(∃x∈s,q=(x.pl,x.rd))\/∃c∈C,q=(c.1.frm,c.2-c.1.cut)\/q=(c.1.dst,c.2+c.1.mins)
 al:Flow.Alike (RO SL to dl s C) l
 fl:IsFlow (SL.length+2) l
 ok:OutOk l out
 lv:LevOk l out (RJ Lv)
 one:RJ Lv 1<0
 best:BestC s C to dl (firstT (RJ Lv) SL 2) (Flow.exc 1 l)
theorem PS.grow {A M:Nat} {X X':List Nat} {G:NB} {pp:Option Addr} {cp:Nat} {vs:List Value} {PL:List (Int×Int)} (h:PS A M X G pp cp vs PL) (Z:NB) (e:∀b∈X',b∈X\/(G.length<=b/\b<G.length+Z.length)):PS A M X' (G++Z) pp cp vs PL:=by
 have d:=ND h.hdr
 have c:=h.ma
 refine ⟨(NZ.refl.app).cells h.hdr,h.own.app Z, ?_,c,h.nd,fun b g=>?_⟩
 ·rw [NK (by omega)];exact h.mp
 ·rcases e b g with h1 | ⟨h1,h2⟩
  ·have:=h.sx b h1
   exact ⟨by simp;omega,this.2⟩
  ·refine ⟨by simp;omega,by omega,by omega,fun i=>?_⟩
   obtain ⟨a,f,rfl⟩:=NT.1 i
   have:=(h.own.block f).2
   omega
theorem PS.mark {A M d:Nat} {X:List Nat} {G:NB} {pp:Option Addr} {cp:Nat} {vs:List Value} {PL:List (Int×Int)} (h:PS A M X G pp cp vs PL) (hd:NC G d=.dfr) (hl:d<G.length):PS A M (d::X) G pp cp vs PL:=by
 refine ⟨h.hdr,h.own,h.mp,h.ma,h.nd,fun b hb=>?_⟩
 rcases Nu.1 hb with rfl | hb
 ·refine ⟨hl,fun e=>?_,fun e=>?_,fun i=>?_⟩
  ·rw [e,h.hdr] at hd;cases hd
  ·rw [e,h.mp] at hd;cases hd
  ·obtain ⟨a,c,rfl⟩:=NT.1 i
   rcases h.own with g | ⟨R,f,_,e7,_⟩
   ·rw [g.2.1] at c;cases c
   ·rw [f] at c;cases c
    rw [e7] at hd;cases hd
 ·exact h.sx b hb
theorem JS.more {A Bo:Nat} {X X':List Nat} {G:NB} {vp vm v4 v5 vw vmost:Value} {pa:Option Addr} {ca co:Nat} {ols:List Yo} {out:List (List Nat)} {l:List Pr} (h:JS A Bo X G vp vm v4 v5 vw vmost pa ca co ols out l) (Z:NB) (d:∀b∈X',b∈X\/(G.length<=b/\b<G.length+Z.length)):JS A Bo X' (G++Z) vp vm v4 v5 vw vmost pa ca co ols out l:=by
 have c:=ND h.os.ou
 refine h.sim ((NZ.refl.app).cells h.hdr) (fun b _ a _=>NK a) (by simp) fun b a=>?_
 rcases d b a with h1 | ⟨h1,h2⟩
 ·have:=(h.os.sy b (N1 _ h1)).1
  exact ⟨by simp;omega,.inl h1⟩
 ·exact ⟨by simp;omega,.inr (.inl h1)⟩
theorem Nm5 {α:Type} {lo e c d:Nat} {G:NB} {enc:α->List Value} {p:Option Addr} {q:List α} (h:Own lo G enc e p c q) (hd:NC G d=.dfr):d∉PZ p:=fun i=>by
 obtain ⟨a,b,rfl⟩:=NT.1 i
 rcases h with g | ⟨R,f,_,e7,_⟩
 ·rw [g.2.1] at b;cases b
 ·rw [f] at b;cases b
  rw [e7] at hd;cases hd
theorem SC:∀{L:List Leg} {to dl:Int},(∀l∈L,Fine l)->(NP L to dl).length<=14*L.length
 | [],to,dl,_=>by simp [NP]
 | l::L,to,dl,h=>by
   have ih:=SC (L:=L) (to:=to) (dl:=dl) fun x a=>h x (Nh _ a)
   have h1:=Nt6 (dl:=dl) (h l Nm)
   unfold NP at ih⊢
   rw [N2,Nb,Nj]
   have:(Xe to dl l).length<=14:=by
    unfold Xe;split
    ·simp
    ·exact h1
   omega
theorem Ng9:∀{s:List Flow.Src},(∀x∈s,x.gr<=1000000000)->ZY s<=1000000000*s.length
 | [],_=>by simp [ZY,Nyd]
 | x::s,h=>by
   have ih:=Ng9 (s:=s) fun y a=>h y (Nh _ a)
   have:=h x Nm
   have e:ZY (x::s)=x.gr+ZY s:=rfl
   rw [e,Nj];omega
theorem N3r {Lv:List Int} (h:∀x∈Lv,-20000<=x/\x<=1051898401) (v:Nat):-20000<=RJ Lv v/\RJ Lv v<=1051898401:=by
 unfold RJ
 rw [Nc]
 cases hg:Lv[v]? with
 | none=>simp
 | some x=>exact h x (Ok hg)
theorem JS.add {A Bo:Nat} {X X':List Nat} {G G':NB} {vp vm v4 v5 f g vw vmost:Value} {pa:Option Addr} {ca co:Nat} {ols:List Yo} {out:List (List Nat)} {l:List Pr} (h:JS A Bo X G vp vm v4 v5 vw vmost pa ca co ols out l) (k:JS A Bo X G' vp vm f g vw vmost pa ca co ols out l) (d:∀b∈X',b∈X\/(G.length<=b/\b<G'.length)):JS A Bo X' G' vp vm f g vw vmost pa ca co ols out l:=by
 have i:=ND h.hdr
 have j:=ND h.os.ou
 refine ⟨k.hdr,k.ar,k.os.withY fun b hb=>?_,k.ab,fun b hb=>?_⟩
 ·rcases Nw.1 hb with hb | hb
  ·exact k.os.sy b (Ny _ hb)
  ·rcases d b hb with h1 | ⟨h1,h2⟩
   ·exact k.os.sy b (N1 _ h1)
   ·exact ⟨h2,by omega,fun u a n c=>by have:=((h.os.us u n).1.block c).2;omega⟩
 ·rcases d b hb with h1 | ⟨h1,h2⟩
  ·exact k.ax b h1
  ·exact ⟨fun m=>by obtain ⟨a,c,e⟩:=NT.1 m;have:=(h.ar.block c).2;omega,by omega⟩
theorem Nqp {PL:List (Int×Int)} {to dl:Int} {s:List Flow.Src} {C:List (Leg×Int)} (h:PlOk PL to dl s C) (d:∀x∈s,0<=x.gr/\x.gr<=1000000000) (a:∀c∈C,0<=c.1.grams/\c.1.grams<=1000000000) {i:Nat} (hi:i / 2<(RO PL to dl s C).length):rm (RO PL to dl s C) i+rm (RO PL to dl s C) (tw i)<=VW:=by
 have key:(gt (RO PL to dl s C) (i / 2)).room<=VW/\(gt (RO PL to dl s C) (i / 2)).flow=0:=by
  have b:=PK hi
  refine ⟨?_,(TU h (fun x g=>(d x g).1) (fun c hc=>(a c hc).1) b).2.2.2⟩
  rcases Zg b with hp | hp | hp
  ·obtain ⟨j,_,_,e⟩:=Un.1 hp
   rw [e];exact Oa _
  ·obtain ⟨x,h1,_,e⟩:=XM.1 hp
   rw [e];have:=(d x h1).2
   show x.gr<=1152921504606846976;omega
  ·obtain ⟨c,h1,e⟩:=Nbl.1 hp
   rw [e];have:=(a c h1).2
   show c.1.grams<=1152921504606846976;omega
 unfold rm
 rw [VX]
 by_cases h2:i % 2=0
 ·rw [Nk h2,Nf (by rw [XI];exact fun f=>f h2)];omega
 ·rw [Nf h2,Nk ((XI i).mpr h2)];omega
theorem Ndb [OB] {lim np cpn cl cs:Nat} {H:NB} {pp2 pl ps:Option Addr} {L:List Leg} {s:List Flow.Src} {to dl:Int} {Q:Value->NB->Prop}
  (bz:lim<=H.length) (hs:Sl H encS 3 ps s) (hl:Sl H QO 8 pl L) (hF:∀l∈L,Fine l) (er:L.length<=8) (br:0<=dl) (bt:dl<=OP) (ei:s.length<=60) (ac:∀x∈s,0<=x.rd/\x.rd<=OP/\0<=x.gr/\x.gr<=1000000000)
  (hQ:∀G A SL Lv l out Lb cp ca cv cw pp pa pw vm vo v5,Built H G A s (NP L to dl) to dl SL Lv l out Lb cp ca cv cw pp pa pw vm vo v5->Q (Vp A) G) :
  NR E false lim 39 [.agg (QJ pp2 np cpn pl L.length cl).toArray,.slice ps s.length cs,Vi to,Vi dl] H Q:=by
 have ep:=SC (to:=to) (dl:=dl) hF
 have U:∀c∈NP L to dl,Fine c.1/\c.1.frm≠to/\0<=c.2/\c.2+c.1.mins<=OP:=fun c hc=>by
  obtain ⟨h1,h2,d,_,h3,h4,h5⟩:=QT hc
  exact ⟨hF _ h1,h2,by omega,by omega⟩
 have ag:∀a,ps=some a->s≠[]->a.block<H.length:=fun a k hn=>by
  rw [k] at hs
  obtain ⟨ro,c,h1,_⟩:=hs.2 hn
  exact ND h1
 have O:∀a,pl=some a->L≠[]->a.block<H.length:=fun a k hn=>by
  rw [k] at hl
  obtain ⟨ro,c,h1,_⟩:=hl.2 hn
  exact ND h1
 refine Te (by decide) e39 rfl ?_
 rw [b39,c39]
 refine NI ?_
 simp only [n39,r39,OG,QE,Sr,bz,SB,seval,NE,NJ,NF,PW,reduceCtorEq,NH,place,NA,NG]
 obtain ⟨h0,m⟩:∃h0,h0=H.length:=⟨_,rfl⟩
 obtain ⟨G0,o⟩:∃G0,G0=H++[Vc (QJ pp2 np cpn pl L.length cl),Vc [Vi to],Blk.map [],Vc [Vz,.map (some (H.length+2)),Vz,Vz,Vz,Vz,Vz,Vi 0],Vc [Vp (H.length+3)],Vc [.func (.func 58) #[] #[Vp (H.length+1),Vp (H.length+4)]]]:=⟨_,rfl⟩
 have b0:NC G0 h0=Vc (QJ pp2 np cpn pl L.length cl):=by rw [o,m];exact NN
 have b1:NC G0 (h0+1)=Vc [Vi to]:=by rw [o,m];exact OL
 have b2:NC G0 (h0+2)=.map []:=by rw [o,m];exact OL
 have b3:NC G0 (h0+3)=Vc [Vz,.map (some (h0+2)),Vz,Vz,Vz,Vz,Vz,Vi 0]:=by rw [o,m];exact OL
 have b4:NC G0 (h0+4)=Vc [Vp (h0+3)]:=by rw [o,m];exact OL
 have b5:NC G0 (h0+5)=Vc [.func (.func 58) #[] #[Vp (h0+1),Vp (h0+4)]]:=by rw [o,m];exact OL
 have bo:∀b,b<h0->NC G0 b=NC H b:=fun b hb=>by rw [o];exact NK (by omega)
 have bl:G0.length=h0+6:=by rw [o,m];simp
 have c5:Sl G0 encS 3 ps s:=by rw [o];exact hs.app _
 have c3:Sl G0 QO 8 pl L:=by rw [o];exact hl.app _
 rw [<-o]
 simp only [<-m]
 clear o
 obtain ⟨X,hX⟩:∃X,X=h0::(h0+1)::(h0+4)::(h0+5)::List.range h0:=⟨_,rfl⟩
 have f:∀b,b<h0\/b=h0\/b=h0+1\/b=h0+4\/b=h0+5->b∈X:=fun b hb=>by rw [hX];simp;omega
 have u:∀b∈X,b<h0\/b=h0\/b=h0+1\/b=h0+4\/b=h0+5:=fun b hb=>by rw [hX] at hb;simp at hb;omega
 refine Nzj (A:=h0+3) (M:=h0+2) (Bn:=h0) (Bt:=h0+1) (Bg:=h0+4) (Bf:=h0+5) (X:=X) (pp:=none) (cp:=0) (PL:=[]) (vs:=[Vz,Vz,Vz,Vz,Vz,Vi 0]) (to:=to) (dl:=dl) (cs:=cs) ⟨rfl,rfl,rfl,rfl,rfl,rfl⟩ ⟨b3,.nil,b2,by omega,List.nodup_nil,fun b hb=>?_⟩ (by omega) rfl (by simp;omega) b4 b1 ⟨f _ (by omega),f _ (by omega),fun a k hn=>f _ (.inl (by rw [m];exact ag a k hn))⟩ c5 rfl rfl rfl fun fr1 G1 d9 dc dq bk a5 et=>?_
 ·have:=u b hb
  refine ⟨by omega,by omega,by omega,by simp [PZ]⟩
 obtain ⟨f1,f3,f4,f6,f9,f10⟩:=dq
 have k0:=fun Z=>(NZ.refl.app (X:=Z)).cells ((a5 h0 (f _ (by omega))).trans b0)
 have k1:=fun Z=>(NZ.refl.app (X:=Z)).cells ((a5 (h0+1) (f _ (by omega))).trans b1)
 refine NI ?_
 simp only [n39,r39,OG,QE,Sr,f1,f3,f4,f6,f9,f10,k0,k1,SB,seval,NE,NJ,NF,PW,reduceCtorEq,NH,place,NA,NG]
 refine Zl ?_
 rw [Wn,YD]
 try simp only [Na]
 obtain ⟨j,r⟩:∃j,j=G1++[Vc (QJ pp2 np cpn pl L.length cl),Vc [Vi to],Vc [Vi dl]]:=⟨_,rfl⟩
 have c0:NC j G1.length=Vc (QJ pp2 np cpn pl L.length cl):=by rw [r];exact NN
 have c1:NC j (G1.length+1)=Vc [Vi to]:=by rw [r];exact OL
 have c2:NC j (G1.length+2)=Vc [Vi dl]:=by rw [r];exact OL
 have ek:j.length=G1.length+3:=by rw [r];simp
 obtain ⟨X2,B⟩:∃X2,X2=G1.length::(G1.length+1)::(G1.length+2)::X:=⟨_,rfl⟩
 have bm:PS (h0+3) (h0+2) X2 j d9 dc [Vz,Vz,Vz,Vz,Vz,Vi 0] (WE to dl [] s):=by
  rw [r]
  refine bk.grow _ fun b hb=>?_
  rw [B] at hb
  simp only [Nu] at hb
  rcases hb with rfl | rfl | rfl | hb
  ·exact .inr ⟨Ng _,by simp⟩
  ·exact .inr ⟨by omega,by simp⟩
  ·exact .inr ⟨by omega,by simp⟩
  ·exact .inl hb
 have am:∀b∈X,NC j b=NC G0 b:=fun b hb=>by
  rw [r,NK (bk.sx b hb).1];exact a5 b hb
 rw [<-r]
 have e6:(WE to dl [] s).length<=s.length:=by have:=Ndj (to:=to) (dl:=dl) (s:=s) (PL:=[]);simpa using this
 refine Nw6 (A:=h0+3) (M:=h0+2) (Bn:=h0) (Bt:=h0+1) (Bg:=h0+4) (Bf:=h0+5) (X:=X2) (Bd2:=G1.length+2) (Bn2:=G1.length) (Bt2:=G1.length+1) (np:=np) (cpn:=cpn) (cl:=cl) (pp2:=pp2) (pl:=pl) (L:=L) (to:=to) (dl:=dl) (ps:=ps) (ns:=s.length) (cs:=cs) ⟨f1,f3,f4,f6,f9,f10⟩ bm (by omega) rfl (by omega)
  ((am _ (f _ (by omega))).trans b4) ((am _ (f _ (by omega))).trans b1) ⟨by rw [B];simp [f (h0+4) (by omega)],by rw [B];simp [f (h0+1) (by omega)]⟩ rfl c2 c0 c1
  (WZ c3 fun a k hn=>am _ (f _ (.inl (by rw [m];exact O a k hn)))) ⟨by rw [B];simp,by rw [B];simp,by rw [B];simp,fun a k hn=>by rw [B];simp [f a.block (.inl (by rw [m];exact O a k hn))]⟩ hF (by omega) br bt fun G2 ej ea dp dw au eu=>?_
 have cr:∀b∈X,NC G2 b=NC G0 b:=fun b hb=>(dw b (by rw [B];simp [hb])).trans (am b hb)
 have k4:=fun Z=>(NZ.refl.app (X:=Z)).cells ((cr (h0+4) (f _ (by omega))).trans b4)
 refine NI ?_
 rw [show ∀(a b c d:AItem),[a,b,c]++[d]=[a,b,c,d] from fun _ _ _ _=>rfl]
 simp only [n39,r39,f1,f3,f4,f6,f9,f10,k4,SB,seval,NE,NJ,NF,PW,reduceCtorEq,NH,place,NA,NG]
 try simp only [Na]
 have bp:=dp.mark au (by omega)
 have dy:(XG to (WE to dl [] s) (NP L to dl)).length<=s.length+2*(NP L to dl).length:=by
  have:=Ndn (to:=to) (C:=NP L to dl) (PL:=WE to dl [] s);omega
 refine Ns6 (v2:=Vz) bp (by omega) (by omega) fun G3 ah ai SL Bo pa ca co ols out es dh D b6 dm ci ce eg J a0 ed bh W bu ew=>?_
 have y:PlOk SL to dl s (NP L to dl):=Nph D b6 fun c hc=>(U c hc).2.1
 have dv:=Npi D (fun x hx=>⟨(ac x hx).1,(ac x hx).2.1⟩) fun c hc=>⟨(U c hc).1,(U c hc).2.2⟩
 have ee:=D.length_eq
 have b8:∀q∈SL,(∃x∈s,q=(x.pl,x.rd))\/∃c∈NP L to dl,q=(c.1.frm,c.2-c.1.cut)\/q=(c.1.dst,c.2+c.1.mins):=fun q hq=>by
  have:=D.mem_iff.1 hq
  rw [Mc,ZZ] at this
  rcases this with (h | ⟨x,hx,_,_,e⟩) | ⟨c,hc,e | ⟨_,e⟩⟩
  ·cases h
  ·exact .inl ⟨x,hx,e⟩
  ·exact .inr ⟨c,hc,.inl e⟩
  ·exact .inr ⟨c,hc,.inr e⟩
 have ae:∀b∈X,NC G3 b=NC G0 b:=fun b hb=>(bu b (by rw [B];simp [hb])).trans (cr b hb)
 refine NI ?_
 simp only [n39,r39,f1,f3,f4,f6,f9,f10,SB,seval,NE,NJ,NF,PW,reduceCtorEq,NH,place,NA,NG]
 try simp only [Na]
 refine Nvm (Bn:=h0) (Bt:=h0+1) (Bg:=h0+4) (Bf:=h0+5) (s:=s) (ps:=ps) (cs:=cs) (to:=to) (dl:=dl) ⟨f1,f3,f4,f6,f9,f10⟩ dh (by omega) bh (by omega) W y.src dm ci ce (by omega) ((ae _ (f _ (by omega))).trans b4) ((ae _ (f _ (by omega))).trans b1) ((ae _ (f _ (by omega))).trans b5)
  ⟨⟨by omega,by omega⟩,⟨by omega,by omega⟩,⟨by omega,by omega⟩,fun a k hn=>by have:=ag a k hn;omega⟩ (WZ c5 fun a k hn=>ae _ (f _ (.inl (by rw [m];exact ag a k hn)))) rfl rfl rfl fun en I d8 da cx cz dr be dn cj cf a6 ex=>?_
 clear f1 f3 f4 f6 f9 f10
 obtain ⟨f1,f3,f4,f6,f9,f10⟩:=dr
 have bb:∀b∈X,NC I b=NC G0 b:=fun b hb=>(a6 b (by have:=u b hb;omega) (by have:=u b hb;omega)).trans (ae b hb)
 have d3:=fun Z=>(NZ.refl.app (X:=Z)).cells ((bb h0 (f _ (by omega))).trans b0)
 have d4:=fun Z=>(NZ.refl.app (X:=Z)).cells ((bb (h0+1) (f _ (by omega))).trans b1)
 refine NI ?_
 simp only [n39,r39,OG,QE,Sr,f1,f3,f4,f6,f9,f10,d3,d4,SB,seval,NE,NJ,NF,PW,reduceCtorEq,NH,place,NA,NG]
 refine Zl ?_
 rw [Wn,YD]
 try simp only [Na]
 obtain ⟨g,t⟩:∃g,g=I++[Vc (QJ pp2 np cpn pl L.length cl),Vc [Vi to],Vc [Vi dl]]:=⟨_,rfl⟩
 have e0:NC g I.length=Vc (QJ pp2 np cpn pl L.length cl):=by rw [t];exact NN
 have e1:NC g (I.length+1)=Vc [Vi to]:=by rw [t];exact OL
 have e2:NC g (I.length+2)=Vc [Vi dl]:=by rw [t];exact OL
 have em:g.length=I.length+3:=by rw [t];simp
 have ba:∀b,b<I.length->NC g b=NC I b:=fun b hb=>by rw [t];exact NK hb
 obtain ⟨X4,aj⟩:∃X4,X4=[I.length,I.length+1,I.length+2]:=⟨_,rfl⟩
 have aq:∀b∈X4,I.length<=b/\b<g.length:=fun b hb=>by rw [aj] at hb;simp at hb;omega
 have eb:=ND be.os.ou
 have bf:JS (h0+3) Bo X4 g (.slice ah SL.length ai) (.map (some (h0+2))) Vz Vz Vz (Vi 0) d8 da co cx cz (PG SL 2++Sj SL to dl s):=by
  rw [t]
  refine be.more _ fun b hb=>.inr ?_
  have:=aq b hb
  simp only [Nj,Nl];omega
 have F:∀b∈X,NC g b=NC G0 b:=fun b hb=>(ba b (by have:=u b hb;omega)).trans (bb b hb)
 rw [<-t]
 have fa:=Z7 (PL:=SL) (to:=to) (dl:=dl) (s:=s)
 have eh:(PG SL 2++Sj SL to dl s).length<=SL.length+s.length:=by rw [Nb];omega
 refine Nql (M:=h0+2) (Bn:=h0) (Bt:=h0+1) (Bg:=h0+4) (Bf:=h0+5) (X:=X4) (Kk:=X4++List.range h0) (Bd2:=I.length+2) (Bn2:=I.length) (Bt2:=I.length+1) (np:=np) (cpn:=cpn) (cl:=cl) (pp2:=pp2) (pl:=pl) (L:=L) (to:=to) (dl:=dl) (ps:=ps) (ns:=s.length) (cs:=cs) ⟨f1,f3,f4,f6,f9,f10⟩ bf (by omega)
  ((ba _ (by omega)).trans ((a6 (h0+2) (by omega) (by omega)).trans bh)) (by omega) W (fun c hc=>⟨y.from' c hc,y.dest c hc⟩) dn cj cf (by omega)
  ((F _ (f _ (by omega))).trans b4) ((F _ (f _ (by omega))).trans b1) ((F _ (f _ (by omega))).trans b5) ⟨⟨by omega,by omega⟩,⟨by omega,by omega⟩,⟨by omega,by omega⟩⟩
  (fun b hb=>by
   rcases Nw.1 hb with hb | hb
   ·exact ⟨(aq b hb).2,.inr hb⟩
   ·rw [List.mem_range] at hb
    exact ⟨by omega,.inl ⟨by omega,by omega⟩⟩) rfl e2 e0 e1
  (WZ c3 fun a k hn=>F _ (f _ (.inl (by rw [m];exact O a k hn)))) ⟨by rw [aj];simp,by rw [aj];simp,by rw [aj];simp,fun a k hn=>N1 _ (List.mem_range.2 (by rw [m];exact O a k hn))⟩ hF (by omega) br bt fun G5 ao bd cy z pw cw P a3 az cg aa bw ey av=>?_
 have bc:∀b∈X,NC G5 b=NC G0 b:=fun b hb=>(bw b (by have:=u b hb;omega) (.inl (by have:=u b hb;omega))).trans (F b hb)
 have d5:=fun Z=>(NZ.refl.app (X:=Z)).cells ((bc (h0+4) (f _ (by omega))).trans b4)
 have ec:=ND P.os.ou
 have a2:∀b,b<Bo->b≠h0+3->NC G5 b=NC G3 b:=fun b q1 q2=>(bw b (by omega) (.inl ⟨q1,q2⟩)).trans ((ba b (by omega)).trans (a6 b q1 q2))
 have a1:Own (h0+3+1) G5 enc2 2 ah ai SL:=RN J fun a k=>a2 _ (a0 a k) (by have:=(J.block k).1;omega)
 refine NI ?_
 rw [show ∀(a b c d e:AItem),[a,b,c,d]++[e]=[a,b,c,d,e] from fun _ _ _ _ _=>rfl]
 simp only [n39,r39,f1,f3,f4,f6,f9,f10,d5,SB,seval,NE,NJ,NF,PW,reduceCtorEq,NH,place,NA,NG]
 try simp only [Na]
 refine Nxo P (by omega) a1 az (by omega) dv fun G6 Lv di df dk ap bg bx ez=>?_
 refine NI ?_
 simp only [n39,r39,f1,f3,f4,f6,f9,f10,SB,seval,NE,NJ,NF,PW,reduceCtorEq,NH,place,NA,NG]
 try simp only [Na]
 have ef:(RO SL to dl s (NP L to dl)).length<=SL.length+s.length+(NP L to dl).length:=by
  unfold RO;rw [Nb,WI];omega
 have V:∀x∈s,0<=x.gr:=fun x hx=>(ac x hx).2.2.1
 have ak:∀c∈NP L to dl,0<=c.1.grams/\c.1.grams<=1000000000:=fun c hc=>by
  have:=(U c hc).1
  unfold Fine at this;omega
 have bq:ZY s<VW:=by
  have:=Ng9 (s:=s) fun x hx=>(ac x hx).2.2.2
  show ZY s<1152921504606846976
  omega
 have dz:∀b∈PZ pw,g.length+2<=b/\b<G5.length:=fun b hb=>by obtain ⟨a,k,rfl⟩:=NT.1 hb;exact aa.block k
 have dg:FSq (h0+3) Bo (G5.length+1) G5.length z.length z.length co ((G5.length+1)::G5.length::(PZ pw++X4)) G6 (.slice ah SL.length ai) (.map (some (h0+2))) (.slice pw (NP L to dl).length cw) ao bd cy z Lv (RO SL to dl s (NP L to dl)):=by
  refine ⟨?_,by simp,by simp,by omega,dk,ap,df⟩
  rw [ap,Ye (v:=1) fun p hp=>(TU y V (fun c hc=>(ak c hc).1) hp).2.2.2]
  refine P.add di fun b hb=>?_
  rw [Nu,Nu] at hb
  rcases hb with rfl | rfl | hb
  ·exact .inr (by omega)
  ·exact .inr (by omega)
  ·exact .inl hb
 have an:∀b,b<=Bo->b∉PZ ao:=fun b hb hm=>by
  obtain ⟨a,k,rfl⟩:=NT.1 hm
  have:=(P.ar.block k).1;omega
 have d7:∀b∈X,NC G6 b=NC G0 b:=fun b hb=>(bx b (by have:=u b hb;omega) (by have:=u b hb;omega)).trans (bc b hb)
 refine Nx8 (n:=SL.length+2) (S:=YU SL noT) (Bnn:=h0) (Bt:=h0+1) (Bg:=h0+4) (Bf:=h0+5) (ps:=ps) (ns:=s.length) (cs:=cs) (dl:=dl) ⟨f1,f3,f4,f6,f9,f10⟩ dg (by omega) ⟨by omega,by omega⟩ a3 (Ni7 y V fun c hc=>(ak c hc).1) (by omega) (by omega) (by omega) (fun v=>by have:=cg v;have e:(PG SL 2++Sj SL to dl s++Tu SL to (NP L to dl)).length=(RO SL to dl s (NP L to dl)).length:=rfl;omega) (fun i hi=>Nqp y (fun x hx=>(ac x hx).2.2) ak hi) (N3r bg) rfl rfl ?_ (by rw [Ye (v:=1) fun p hp=>(TU y V (fun c hc=>(ak c hc).1) hp).2.2.2];exact Oa _)
  ((d7 _ (f _ (by omega))).trans b4) ⟨by omega,by omega,an _ (by omega),by omega⟩ rfl fun eo R X7 c8 c6 dd db L7 l7 du e8 K N aw ay Y dx e5=>?_
 ·rw [MF rfl y]
  unfold wt
  rw [Nbm]
  have:=Mi (T:=noT) (dl:=dl) V
  omega
 clear f1 f3 f4 f6 f9 f10
 obtain ⟨f1,f3,f4,f6,f9,f10⟩:=du
 have w:∀b,b<G5.length->b≠h0+3->b∉PZ ao->NC R b=NC G5 b:=fun b q1 q2 q3=>(dx b (by omega) q2 q3 (by omega)).trans (bx b q1 q2)
 have a8:∀b,b<Bo->b≠h0+3->NC R b=NC G3 b:=fun b q1 q2=>(w b (by omega) q2 (an b (by omega))).trans (a2 b q1 q2)
 have cu:∀b∈X,NC R b=NC G0 b:=fun b hb=>(w b (by have:=u b hb;omega) (by have:=u b hb;omega) (an b (by have:=u b hb;omega))).trans (bc b hb)
 have d6:=(cu (h0+4) (f _ (by omega))).trans b4
 have d1:NC R j.length=.dfr:=(a8 _ (by omega) (by omega)).trans ((bu _ (by simp)).trans au)
 have d2:NC R g.length=.dfr:=(w _ (by omega) (by omega) (Nm5 P.ar av)).trans av
 have de:NC (R.set g.length .dead) j.length=.dfr:=by rw [OQ (by omega)];exact d1
 simp only [n39,r39,f1,f3,f4,f6,f9,f10,d6,d2,de,show lim<=g.length by omega,show lim<=j.length by omega,SB,seval,NE,NJ,NF,PW,reduceCtorEq,NH,place,NA,NG]
 have k8:∀b,b≠j.length->b≠g.length->NC ((R.set g.length .dead).set j.length .dead) b=NC R b:=fun b q1 q2=>by rw [OQ q1,OQ q2]
 have ad:∀b ro c,NC R b=.cells ro c->NC ((R.set g.length .dead).set j.length .dead) b=.cells ro c:=fun b ro c hb=>by
  rw [k8 b (fun e=>by rw [e,d1] at hb;cases hb) fun e=>by rw [e,d2] at hb;cases hb];exact hb
 have ck:Sl R enc2 2 ah SL:=(RN a1 fun a k=>by
  have:=a0 a k
  exact w _ (by omega) (by have:=(J.block k).1;omega) (an _ (by omega))).sl PO
 have cm:Sl R Vt 11 pw (Tz (2*(PG SL 2++Sj SL to dl s).length) (NP L to dl)):=(RN aa fun a k=>by
  have hm:a.block∈PZ pw:=NT.2 ⟨a,k,rfl⟩
  have:=dz _ hm
  exact w _ this.2 (by omega) (P.ax _ (Ny _ hm)).1).sl SK
 refine hQ _ (h0+3) SL L7 l7 z c8 ai bd dd cw ah ao pw (.map (some (h0+2))) (.slice (Sa Bo) z.length co) (.slice (Sa c6) z.length db) ⟨ad _ _ _ K.js.hdr,by omega,fun b hb=>?_,by simp;omega,ck.sim ad,(K.js.ar.sl PO).sim ad,ad _ _ _ K.lb,cm.sim ad,by rw [K.len];exact az,y,by omega,b8,N,aw,a3.alike N,ay,Y, ?_⟩
 ·rw [k8 b (by omega) (by omega),cu b (f _ (by omega))];exact bo b (by omega)
 ·exact Nsq y N aw (a3.alike N) ay Y V (fun c hc=>(U c hc).1) bq
structure AllOk (P:List Int) (L:List Leg) (s:List Flow.Src) (to dl:Int):Prop where
 net:NetOk 50 P L (Nkp P)
 to':to∈P
 d0:0<=dl
 d1:dl<=OP
 ns:s.length<=50
 src:∀x∈s,SOk P x
theorem S9 {P:List Int} {L:List Leg} {s:List Flow.Src} {to dl:Int} (h:OC P L s to dl=0):AllOk P L s to dl:=by
 unfold OC at h
 by_cases h1:QB P L=0
 case neg=>rw [Nk h1] at h;exact absurd h h1
 rw [Nf (by simpa using h1)] at h
 by_cases h2:to∈P/\0<=dl/\dl<=OP
 case neg=>rw [Nk h2] at h;cases h
 rw [Nf (by simpa using h2)] at h
 by_cases a:50<s.length
 case pos=>rw [Nk a] at h;cases h
 rw [Nf a] at h
 by_cases b:∀x∈s,SOk P x
 case neg=>rw [Nf b] at h;cases h
 exact ⟨Nom h1,h2.1,h2.2.1,h2.2.2,by omega,b⟩
noncomputable def Wd (s:List Flow.Src) (C:List (Leg×Int)) (to dl:Int):Int:=Classical.epsilon fun v=>∃T,BestC s C to dl T v
noncomputable def VL (s:List Flow.Src) (C:List (Leg×Int)) (to dl:Int):Int->Option Int:=Classical.epsilon fun T=>BestC s C to dl T (Wd s C to dl)
theorem Nit {s:List Flow.Src} {C:List (Leg×Int)} {to dl v:Int} {T:Int->Option Int} (h:BestC s C to dl T v):BestC s C to dl (VL s C to dl) (Wd s C to dl):=
 Classical.epsilon_spec (Classical.epsilon_spec (p:=fun v=>∃T,BestC s C to dl T v) ⟨v,T,h⟩)
theorem SG {s:List Flow.Src} {C:List (Leg×Int)} {to dl v:Int} {T:Int->Option Int} (h:BestC s C to dl T v):v=Wd s C to dl/\T=VL s C to dl:=by
 obtain ⟨h1,h2⟩:=h.uniq (Nit h)
 exact ⟨h1,funext h2⟩
theorem PI.out [OB] {af:AFunc} {lim:Nat} {k:List AItem} {fr:Nat->Value} {H:NB} {p:Prop} (h:PI E af lim k fr H fun _ _=>p):p:=by
 obtain ⟨n,L,h1,h2,a⟩:=h
 obtain ⟨x,rfl⟩:=h2 rfl
 exact a x (by simp)
theorem RX {P:List Int} {L:List Leg} {s:List Flow.Src} {to dl:Int} (a:OC P L s to dl=0):QB P L=0:=by
 apply Ns
 intro hc
 unfold OC at a
 rw [Nk hc] at a;exact hc a
theorem Nww {H G:NB} {A:Nat} {P:List Int} {L:List Leg} {s:List Flow.Src} {to dl:Int} {SL:List (Int×Int)} {Lv:List Int} {l:List Pr} {out:List (List Nat)} {Lb cp ca cv cw:Nat} {pp pa pw:Option Addr} {vm vo v5:Value} (h:Built H G A s (NP L to dl) to dl SL Lv l out Lb cp ca cv cw pp pa pw vm vo v5) (a:AllOk P L s to dl):∀p t,firstT (RJ Lv) SL 2 p=some t->0<=t/\t<=OP/\p∈P:=fun p t n=>by
 obtain ⟨j,h1,h2,_⟩:=Vj n
 have m:=a.d1
 rcases h.mem _ (PK h1) with ⟨x,o,e⟩ | ⟨c,hc,e⟩
 ·rw [h2] at e
  cases e
  obtain ⟨g1,g,i,_⟩:=a.src x o
  exact ⟨g,i,g1⟩
 ·obtain ⟨b,q,d,f,r,u,v⟩:=QT hc
  have k:=a.net.fine _ b
  unfold Fine at k
  unfold goes at f
  simp only [N9,N3] at f
  rw [h2] at e
  rcases e with e | e<;>cases e
  ·exact ⟨by omega,by omega,a.net.frm _ b⟩
  ·exact ⟨by omega,by omega,a.net.dst _ b⟩
noncomputable def Nab (P:List Int) (L:List Leg) (s:List Flow.Src) (to dl:Int):Int:=if OC P L s to dl=0 then Wd s (NP L to dl) to dl else 0
section
variable {pp pl ps:Option Addr} {P:List Int} {L:List Leg} {s:List Flow.Src} {cp cl cs:Nat} {to dl:Int} {H:NB}
theorem Nis [OB] {R:Value->NB->Prop} (hn:NetIn H pp pl P L) (e:Sl H encS 3 ps s) (c:s.length<2 ^ 63) (d:QB P L=0->L.length<=8)
  (f:∀v G,(OC P L s to dl≠0->v=0)->(OC P L s to dl=0->∃T,BestC s (NP L to dl) to dl T v/\∀p t,T p=some t->0<=t/\t<=OP/\p∈P)->R (.tuple #[Vi v,Vi (OC P L s to dl)]) G) :
  PI E a17 H.length [.code a17.body] (NH [.agg (QJ pp P.length cp pl L.length cl).toArray,.slice ps s.length cs,Vi to,Vi dl]) (H++[]) R:=by
 rw [b17,c17]
 have g:H.length<=H.length:=Ng _
 by_cases a:OC P L s to dl=0
 case neg=>
  simp only [n17,r17,OG,TQ (hn.app _) (e.app _) c,Nn a,SB,seval,NE,NJ,NF,NH,place,NA,NG]
  exact f 0 _ (fun _=>rfl) (fun h=>absurd h a)
 have b:=S9 a
 simp only [n17,OG,TQ (hn.app _) (e.app _) c,a,SB,seval,NE,NJ,NF,NH,place,NA]
 refine Ndb (by simp) (e.app _) (hn.app _).sl b.net.fine (d (RX a)) b.d0 b.d1 (by have:=b.ns;omega) (fun x i=>(b.src x i).2) fun G A SL Lv l out Lb cp ca cv cw k pa pw vm vo v5 hB=>?_
 have j:=fun Z=>(NZ.refl.app (X:=Z)).cells hB.hdr
 refine NI ?_
 simp only [n17,r17,j,SB,seval,NJ,NG]
 rw [<-a]
 exact f _ _ (fun h=>absurd a h) (fun _=>⟨_,hB.best,Nww hB b⟩)
theorem Nn9 [OB] (hn:NetIn H pp pl P L) (d:Sl H encS 3 ps s) (b:s.length<2 ^ 63) (a:QB P L=0->L.length<=8) (c:OC P L s to dl=0):BestC s (NP L to dl) to dl (VL s (NP L to dl) to dl) (Wd s (NP L to dl) to dl)/\∀p t,VL s (NP L to dl) to dl p=some t->0<=t/\t<=OP/\p∈P:=by
 have:∃v T,BestC s (NP L to dl) to dl T v/\∀p t,T p=some t->0<=t/\t<=OP/\p∈P:=PI.out (Nis (R:=fun _ _=>∃v T,BestC s (NP L to dl) to dl T v/\∀p t,T p=some t->0<=t/\t<=OP/\p∈P) (cp:=0) (cl:=0) (cs:=0) hn d b a fun v G _ h=>⟨v,h c⟩)
 obtain ⟨v,T,h,h2⟩:=this
 exact ⟨Nit h,by rw [<-(SG h).2];exact h2⟩
theorem Nze [OB] (hn:NetIn H pp pl P L) (d:Sl H encS 3 ps s) (b:s.length<2 ^ 63) (a:QB P L=0->L.length<=8) (c:OC P L s to dl=0):BestC s (NP L to dl) to dl (VL s (NP L to dl) to dl) (Wd s (NP L to dl) to dl):=(Nn9 hn d b a c).1
theorem Nnc [OB] {mp:Bool} {lim:Nat} {Q:Value->NB->Prop} (hn:NetIn H pp pl P L) (e:Sl H encS 3 ps s) (c:s.length<2 ^ 63) (b:QB P L=0->L.length<=8) :
  NR E mp lim 17 [.agg (QJ pp P.length cp pl L.length cl).toArray,.slice ps s.length cs,Vi to,Vi dl] H Q=Q (.tuple #[Vi (Nab P L s to dl),Vi (OC P L s to dl)]) H:=by
 refine pc (by decide) e17 rfl rfl (Nis hn e c b fun v G h1 h2=>?_)
 unfold Nab
 by_cases a:OC P L s to dl=0
 ·obtain ⟨T,d,_⟩:=h2 a
  rw [Nk a,(SG d).1]
 ·rw [Nf a,h1 a]
end
end Go.Proofs.YtohnaffmcjbpoaaGreat.Fn


namespace Go.Flow
open Go.AM Go.Net
structure Ld where
 leg:Int
 dep:Int
 arr:Int
 gr:Int
 deriving DecidableEq,Inhabited
def RH (a b:Ld):Prop:=a.dep<b.dep\/a.dep=b.dep/\a.leg<b.leg
instance (a b:Ld):Decidable (RH a b):=by unfold RH;infer_instance
def Tv (c:Leg×Int):Ld:=⟨c.1.id,c.2,c.2+c.1.mins,c.1.grams⟩
def WN (T:Int->Option Int) (c:Leg×Int):Bool:=!late T c.1.frm (c.2-c.1.cut)&&late T c.1.dst (c.2+c.1.mins)
def TE (T:Int->Option Int) (C:List (Leg×Int)):List Ld:=(C.filter (WN T)).map Tv
theorem Nlm {a b:Ld} (h1:¬RH a b) (h2:¬RH b a):a.dep=b.dep/\a.leg=b.leg:=by
 unfold RH at *;omega
theorem XN:∀{a b:List Ld},a.Perm b->a.Pairwise (fun x y=>¬RH y x)->b.Pairwise (fun x y=>¬RH y x)->(∀x∈a,∀y∈a,x.dep=y.dep->x.leg=y.leg->x=y)->a=b
 | [],b,h,_,_,_=>h.nil_eq
 | x::a,[],h,_,_,_=>absurd h.length_eq (by simp)
 | x::a,y::b,h,h1,h2,hx=>by
   obtain ⟨p1,p2⟩:=List.pairwise_cons.1 h1
   obtain ⟨q1,q2⟩:=List.pairwise_cons.1 h2
   have e:x=y:=by
    rcases Nu.1 (h.mem_iff.1 Nm) with e | hm
    ·exact e
    rcases Nu.1 (h.mem_iff.2 (Nm (a:=y))) with e | hm2
    ·exact e.symm
    obtain ⟨e1,e2⟩:=Nlm (q1 x hm) (p1 y hm2)
    exact (hx y (Nh _ hm2) x Nm e1.symm e2.symm).symm
   subst e
   rw [XN ((List.perm_cons x).1 h) p2 q2 fun y c z d=>hx y (Nh _ c) z (Nh _ d)]
end Go.Flow
namespace Go.Proofs.YtohnaffmcjbpoaaGreat.Fn
open Go.AM Go.AM.Sym Go.Net Go.Flow Go.Sort
def QI (x:Flow.Ld):List Value:=[Vi x.leg,Vi x.dep,Vi x.arr,Vi x.gr]
theorem NU (x:Flow.Ld):(QI x).length=4:=id rfl
theorem Su {x:Flow.Ld}:(QI x)[0]? = some (Vi x.leg):=id rfl
theorem Sn {x:Flow.Ld}:(QI x)[1]? = some (Vi x.dep):=id rfl
theorem Tx {x:Flow.Ld}:(QI x)[2]? = some (Vi x.arr):=id rfl
theorem Ue {x:Flow.Ld}:(QI x)[3]? = some (Vi x.gr):=id rfl
instance sortL [OB]:Srt.SortAt E zL:=⟨rfl,kn rfl rfl (by decide),kn rfl rfl (by decide),kn rfl rfl (by decide),kn rfl rfl (by decide),kn rfl rfl (by decide),kn rfl rfl (by decide),kn rfl rfl (by decide),kn rfl rfl (by decide),kn rfl rfl (by decide),kn rfl rfl (by decide),kn rfl rfl (by decide),kn rfl rfl (by decide),kn rfl rfl (by decide),kn rfl rfl (by decide),kn rfl rfl (by decide),kn rfl rfl (by decide),kn rfl rfl (by decide),kn rfl rfl (by decide)⟩
instance encDL:Srt.EncOk QI zL:=⟨fun _=>rfl⟩
def Nl6 (a b:Flow.Ld):Int:=orL [UE a.dep b.dep,UE a.leg b.leg]
theorem Xq [OB] (mp:Bool) (lim:Nat) (a b:Flow.Ld) (H:NB) (Q:Value->NB->Prop):NR E mp lim 41 [.agg (QI a).toArray,.agg (QI b).toArray] H Q=Q (Vi (Nl6 a b)) H:=by
 refine pc (by decide) e41 rfl rfl ?_
 rw [b41,c41]
 simp only [n41,r41,QI,Nl5,Nkv,Wv,WB,Wh,Zc,XU,YZ,Nat.reducePow,SB,seval,NE,NJ,NH,place,NA,NG]
 rfl
theorem Nc3 {a b:Flow.Ld}:Nl6 a b<0↔RH a b:=by
 have e0:Nl6 a b=if UE a.dep b.dep≠0 then UE a.dep b.dep else if UE a.leg b.leg≠0 then UE a.leg b.leg else 0:=rfl
 rw [e0]
 unfold RH
 rcases Qh a.dep b.dep with h | h | h
 ·rw [Zo h];simp [h]
 ·rw [Zp h]
  rcases Qh a.leg b.leg with h2 | h2 | h2
  ·rw [Zo h2];simp [h,h2]
  ·rw [Zp h2];simp [h,h2]
  ·rw [Zn h2];simp [h];omega
 ·rw [Zn h];simp;omega
theorem Nbe {a b:Flow.Ld}:Srt.ltC Nl6 a b=decide (RH a b):=by
 unfold Srt.ltC
 rw [Rb,N3,N3]
 exact Nc3
theorem Nwl:SWO (Srt.ltC Nl6):=by
 refine ⟨fun x=>?_,fun x y z h1 h2=>?_,fun x y z h1 h2=>?_⟩
 ·rw [Nbe];simp [RH]
 ·rw [Nbe,N3] at h1 h2⊢
  unfold RH at *;omega
 ·rw [Nbe,decide_eq_false_iff_not] at h1 h2⊢
  unfold RH at *;omega
theorem Nhr [OB] {α:Type} [Inhabited α] {enc:α->List Value} {iz:Srt.Ids} {c:α->α->Int} {cl:FuncId} {lim cp:Nat} {pp:Option Addr} {lo:Nat} {PL:List α} {G:NB} {Q:Value->NB->Prop} [Srt.SortAt E iz] [Srt.EncOk enc iz] (hc:∀(mp:Bool) (lim:Nat) (x y:α) (H:NB) (Q:Value->NB->Prop),NR E mp lim cl [.agg (enc x).toArray,.agg (enc y).toArray] H Q=Q (Vi (c x y)) H) (hS:SWO (Srt.ltC c)) (t:Own lo G enc iz.e pp cp PL) (u:lim<=lo) (hn:PL.length<65536)
  (q:∀G' SL,Own lo G' enc iz.e pp cp SL->SL.Perm PL->SL.Pairwise (fun x y=>Srt.ltC c y x=false)->(∀b,b<G.length->b∉PZ pp->NC G' b=NC G b)->G.length<=G'.length->Q (.tuple #[]) G') :
  NR E false lim iz.SORT [.slice pp PL.length cp,.func (.func cl) #[] #[]] G Q:=by
 rcases t with ⟨r,rfl,rfl⟩ | ⟨R,rfl,rfl,l,m⟩
 ·subst r
  have v:NR E false lim iz.SORT [Vz,.func (.func cl) #[] #[]] G Q=Q (.tuple #[]) G:=Srt.sort_nil (iz:=iz) (cs:=[])
  rw [Nl,v]
  exact q G [] .nil (List.Perm.refl _) List.Pairwise.nil (fun _ _ _=>rfl) (Ng _)
 ·obtain ⟨d,Y,h1,h2,s,h⟩:=Srt.sort_ok (E:=E) (iz:=iz) (enc:=enc) (X:=[]) (G:=G) (B:=R) (lim:=lim) (cap:=loose iz.e) (n:=PL.length) (p:=Sa R) (c:=c) (cl:=cl) (cs:=[]) rfl (ND l) (by omega) (by omega) (fun mp lim x y H Q=>hc mp lim x y H Q) hS (by omega) (d:=PL.toArray) (by simp)
  rw [Nj2 l] at h
  have hp:d.toList.Perm PL:=Nce (d:=PL.toArray) (n:=PL.length) (by simp) h2
  simp only [Ob,Na] at h
  have k:NR E false lim iz.SORT [.slice (Sa R) PL.length (loose iz.e),.func (.func cl) #[] #[]] G Q=Q (.tuple #[]) (DH enc G R d++Y):=h Q
  rw [k]
  have a:=ND l
  have g:Mut G (DH enc G R d) R:=⟨by simp [DH],fun j f=>OQ f⟩
  refine q _ d.toList (.inr ⟨R,rfl,rfl, ?_,m⟩) hp ?_ (fun b w hn=>?_) (by have:=g.len;simp;omega)
  ·rw [NK (by have:=g.len;omega)]
   have:=Ndy (X:=[]) (enc:=enc) (d:=d) a
   rw [Na] at this
   exact this
  ·rw [N5]
   intro i j hi f o
   have q1:=s i j (Nv _) o (by simpa [h1] using f)
   have e1:d[i]! = d.toList[i]:=by rw [getElem!_pos d i (by simpa using hi)];simp
   have e2:d[j]! = d.toList[j]:=by rw [getElem!_pos d j (by simpa using f)];simp
   rw [e1,e2] at q1
   exact q1
  ·rw [NK (by have:=g.len;omega)]
   exact g.other b fun e=>hn (NT.2 ⟨_,rfl,e.symm⟩)
theorem Nhq [OB] {lim cp:Nat} {pp:Option Addr} {lo:Nat} {PL:List Flow.Ld} {G:NB} {Q:Value->NB->Prop} (f:Own lo G QI 4 pp cp PL) (a:lim<=lo) (hn:PL.length<65536)
  (g:∀G' SL,Own lo G' QI 4 pp cp SL->SL.Perm PL->SL.Pairwise (fun x y=>¬RH y x)->(∀b,b<G.length->b∉PZ pp->NC G' b=NC G b)->G.length<=G'.length->Q (.tuple #[]) G') :
  NR E false lim 40 [.slice pp PL.length cp,.func (.func 41) #[] #[]] G Q:=
 Nhr (iz:=zL) Xq Nwl f a hn fun G' SL h1 h2 c d e=>g G' SL h1 h2 (c.imp fun h=>by rw [Nbe,decide_eq_false_iff_not] at h;exact h) d e
def kI (k:Int):Value:=Vi k
theorem N3u:Nog kI:=fun a b=>by
 simp only [kI,VI,if_true,Option.some.injEq]
 by_cases h:a=b<;>simp [h]
theorem fkI {p:Int} {es:List (Int×Int)}:findKey (Vi p) (Sz kI vI es) 0=some ((fk p es 0).map fun x=>(x.1,Vi x.2)):=TM (vv:=vI) N3u p es 0
end Go.Proofs.YtohnaffmcjbpoaaGreat.Fn


namespace Go.Flow
open Go.AM Go.Net
theorem Nal {lv:Nat->Int} {x:Int×Int} {p:Int}:∀{PL:List (Int×Int)} {i:Nat},firstT lv (PL++[x]) i p=match firstT lv PL i p with | some t=>some t | none=>if x.1=p/\0<=lv (i+PL.length) then some x.2 else none
 | [],i=>by simp [firstT]
 | y::PL,i=>by
   rw [Oc]
   unfold firstT
   by_cases h:y.1=p/\0<=lv i
   ·rw [Nk h,Nk h]
   ·rw [Nf h,Nf h,Nal,Nj,show i+1+PL.length=i+(PL.length+1) by omega]
end Go.Flow
namespace Go.Proofs.YtohnaffmcjbpoaaGreat.Fn
open Go.AM Go.AM.Sym Go.Net Go.Flow
structure BQ (fr:Nat->Value) (B4 B8 A R:Nat):Prop where
 f4:fr 4=Vp B4
 f8:fr 8=Vp B8
 f11:fr 11=Vp A
 f12:fr 12=.map (some R)
theorem UM {G:NB} {R:Nat} {es:List (Value×Value)} (h:NC G R=.map es):R<G.length:=by
 rcases Om R G.length with h1 | h1
 ·exact h1
 ·unfold NC at h;rw [Nc,N8 h1] at h;cases h
theorem Nyq [OB] {lim A R B4 B8 Lb cp cv:Nat} {G:NB} {fr:Nat->Value} {pp:Option Addr} {SL:List (Int×Int)} {Lv:List Int} {v1 v2 v3 v5 v6 v7:Value} {K:List AItem} {Q:Value->NB->Prop}
  (F:BQ fr B4 B8 A R) (B:NC G A=Vc [.slice pp SL.length cp,v1,v2,v3,.slice (Sa Lb) Lv.length cv,v5,v6,v7]) (sp:Sl G enc2 2 pp SL) (C:NC G Lb=Vc (Lv.flatMap encI)) (ll:Lv.length=SL.length+2) (aa:SL.length<2 ^ 40) (u:NC G R=.map []) (H:lim<=R)
  (d:fr 50=.slice pp SL.length cp) (b:fr 51=Vi SL.length) (f:fr 52=Vi 0)
  (Y:∀fr' G' es,BQ fr' B4 B8 A R->(∀p,TK p es=firstT (RJ Lv) SL 2 p)->NC G' R=.map (Sz kI vI es)->Chg [R] G G'->PI E a18 lim K fr' G' Q) :
  PI E a18 lim (.code (.loop Nu5)::.inBlock 0::K) fr G Q:=by
 refine NM (fun z:Nat×List (Int×Int)=>SL.length-z.1) (fun z fr G'=>z.1<=SL.length/\BQ fr B4 B8 A R/\fr 50=.slice pp SL.length cp/\fr 51=Vi SL.length/\fr 52=Vi z.1/\(∀p,TK p z.2=firstT (RJ Lv) (SL.take z.1) 2 p)/\NC G' R=.map (Sz kI vI z.2)/\Chg [R] G G') (0,[])
  ⟨Nv _,F,d,b,f,fun p=>rfl,u,Chg.refl⟩ ?_
 rintro ⟨j,es⟩ fr G' ⟨O,F,d,b,f,n,l,o⟩ D
 simp only at O f n l
 obtain ⟨f4,f8,f11,f12⟩:=F
 rw [NQ Nu5.eq_1]
 refine NI ?_
 by_cases k:j<SL.length
 case neg=>
  obtain rfl:j=SL.length:=by omega
  rw [Of] at n
  simp only [n18,b,f,k,SB,seval,NJ,NF]
  refine Y _ _ es ⟨f4,f8,f11,f12⟩ n ?_ o.app
  rw [Na];exact l
 have nA:A∉[R]:=by
  rw [Ni]
  intro e;rw [e,u] at B;cases B
 have nL:Lb∉[R]:=by
  rw [Ni]
  intro e;rw [e,u] at C;cases C
 have s:Sl G' enc2 2 pp SL:=o.sl sp fun a ha hn=>by
  rw [Ni]
  intro e
  rw [ha] at sp
  obtain ⟨ro,c,k1,_⟩:=sp.2 hn
  rw [e,u] at k1;cases k1
 have L:=fun Z=>(s.app Z).loadCells PO k
 have N:=QN s k rfl
 have T:Sl G' encI 1 (Sa Lb) Lv:=Sl.row (ro:=false) OU (o.cells C nL)
 have J:=TT (i:=j+2) T (by omega)
 rw [Ngm (by omega)] at J
 have V:=V6 (i:=j+2) T (by omega) rfl
 have P:=fun Z=>(NZ.refl.app (X:=Z)).cells (o.cells B nA)
 have m:=UM l
 have I:∀Z,NC (G'++Z) R=.map (Sz kI vI es):=fun Z=>by rw [NK m];exact l
 have M:IntKind.i64.wrap ((j:Int)+1)=((j+1:Nat):Int):=NS (by omega)
 have U:IntKind.i64.wrap ((j:Int)+2)=((j+2:Nat):Int):=by rw [NY (by omega) (by omega)];omega
 have g:=fkI (p:=(gt SL j).1) (es:=es)
 have h:=Wz (gt SL j).1 es 0
 have q:lim<=G'.length:=by omega
 have y:∀p,firstT (RJ Lv) (SL.take (j+1)) 2 p=match TK p es with | some t=>some t | none=>if (gt SL j).1=p/\0<=RJ Lv (j+2) then some (gt SL j).2 else none:=fun p=>by
  rw [QH k,Nal,<-n p,N6,Pa O,Qk 2 j]
 cases hc:fk (gt SL j).1 es 0 with
 | some x=>
   obtain ⟨i,v⟩:=x
   rw [hc] at g h
   simp only [Nz] at g h
   simp only [n18,f12,d,b,f,k,L,N,I,M,enc2,q,g,SB,seval,NJ,NF,PW,place,NA]
   refine D (j+1,es) _ _ ⟨by show j+1<=_;omega,⟨f4,f8,f11,f12⟩,d,b,rfl,fun p=>?_,by rw [NK m];exact l,o.app⟩ (by show SL.length-(j+1)<SL.length-j;omega)
   rw [y]
   cases hp:TK p es with
   | some t=>rfl
   | none=>
     rw [Nf fun r=>by rw [r.1,hp] at h;cases h]
 | none=>
   rw [hc] at g h
   simp only [Ov] at g h
   by_cases w:0<=RJ Lv (j+2)
   ·obtain ⟨G2,e2,k2,S⟩:=OO m (.map (Sz kI vI es++[(Vi (gt SL j).1,Vi (gt SL j).2)]))
    simp only [n18,f11,f12,d,b,f,k,L,N,J,V,P,I,M,U,enc2,q,g,Nq w,H,e2,SB,seval,NJ,NF,PW,place,NA]
    refine D (j+1,es++[(gt SL j)]) _ _ ⟨by show j+1<=_;omega,⟨f4,f8,f11,f12⟩,d,b,rfl,fun p=>?_, ?_,(o.mut S (.inl (by simp))).app⟩ (by show SL.length-(j+1)<SL.length-j;omega)
    ·rw [y]
     have W:es++[(gt SL j)]=XE (gt SL j).1 (gt SL j).2 es:=Ngv hc
     show TK p (es++[(gt SL j)])=_
     rw [W,Ya]
     by_cases hp:p=(gt SL j).1
     ·subst hp
      rw [Nk rfl,<-h]
      simp [w]
     ·rw [Nf hp]
      cases TK p es with
      | some t=>rfl
      | none=>simp only;rw [Nf fun r=>hp r.1.symm]
    ·rw [NK (by have:=S.len;omega),k2]
     unfold Sz
     rw [Pe];rfl
   ·simp only [n18,f11,f12,d,b,f,k,L,N,J,V,P,I,M,U,enc2,q,g,Nn w,SB,seval,NJ,NF,PW,place,NA]
    refine D (j+1,es) _ _ ⟨by show j+1<=_;omega,⟨f4,f8,f11,f12⟩,d,b,rfl,fun p=>?_,by rw [NK m];exact l,o.app⟩ (by show SL.length-(j+1)<SL.length-j;omega)
    rw [y]
    cases hp:TK p es with
    | some t=>rfl
    | none=>rw [Nf fun r=>w r.2]
def Sm (T:Int->Option Int) (P:List Int):List Int:=P.map fun p=>(T p).getD (-1)
theorem Nsk [OB] {lim A R B4 B8 Bc cp2:Nat} {G:NB} {fr:Nat->Value} {pp:Option Addr} {P:List Int} {es:List (Int×Int)} {T:Int->Option Int} {K:List AItem} {Q:Value->NB->Prop}
  (S:BQ fr B4 B8 A R) (sp:Sl G encI 1 pp P) (hp:P.length<2 ^ 40) (F:NC G R=.map (Sz kI vI es)) (O:∀p,TK p es=T p) (f17:fr 17=Vp Bc) (hB:NC G Bc=Vc [Vz,Vz]) (B:lim<=Bc)
  (h:fr 84=.slice pp P.length cp2) (b:fr 85=Vi P.length) (k:fr 86=Vi 0)
  (hK:∀fr' G' p' c',BQ fr' B4 B8 A R->fr' 17=Vp Bc->Own G.length G' encI 1 p' c' (Sm T P)->NC G' Bc=Vc [.slice p' P.length c',Vz]->Chg [Bc] G G'->PI E a18 lim K fr' G' Q) :
  PI E a18 lim (.code (.loop Nu6)::.inBlock 2::K) fr G Q:=by
 have aa:=ND hB
 refine NM (fun z:Nat×Option Addr×Nat=>P.length-z.1) (fun z fr G'=>z.1<=P.length/\BQ fr B4 B8 A R/\fr 17=Vp Bc/\fr 84=.slice pp P.length cp2/\fr 85=Vi P.length/\fr 86=Vi z.1/\Own G.length G' encI 1 z.2.1 z.2.2 (Sm T (P.take z.1))/\NC G' Bc=Vc [.slice z.2.1 z.1 z.2.2,Vz]/\Chg [Bc] G G') (0,none,0)
  ⟨Nv _,S,f17,h,b,k,.nil,hB,Chg.refl⟩ ?_
 rintro ⟨j,p1,J⟩ fr G' ⟨hj,S,f17,h,b,k,w,d,q⟩ hN
 simp only at hj k w d
 obtain ⟨f4,f8,f11,f12⟩:=S
 rw [NQ Nu6.eq_1]
 refine NI ?_
 by_cases l:j<P.length
 case neg=>
  obtain rfl:j=P.length:=by omega
  rw [Of] at w
  simp only [n18,b,k,l,SB,seval,NJ,NF]
  refine hK _ _ p1 J ⟨f4,f8,f11,f12⟩ f17 (w.app _) ?_ q.app
  rw [Na];exact d
 have D:Sl G' encI 1 pp P:=q.sl sp fun a t hn=>by
  rw [Ni]
  intro e
  rw [t] at sp
  obtain ⟨ro,c,k1,k2,k3⟩:=sp.2 hn
  rw [e,hB] at k1
  injection k1 with _ k1
  subst k1
  cases P with
  | nil=>simp at hn
  | cons x P=>
    rw [N2] at k3
    simp only [Nj,Qw,encI,Oc,Ob] at k3 k2
    match h0:a.off with
    | 0=>rw [h0] at k3;cases k3
    | 1=>rw [h0] at k3;cases k3
    | n+2=>rw [h0] at k2;simp at k2;omega
 have lP:=TT D l
 have xP:=V6 D l rfl
 have M:R≠Bc:=fun e=>by rw [e,hB] at F;cases F
 have N:=UM F
 have y:R<G'.length:=by have:=q.len;omega
 have kR:∀Z,NC (G'++Z) R=.map (Sz kI vI es):=fun Z=>by rw [NK y,q.other R N (by rw [Ni];exact M)];exact F
 have w1:IntKind.i64.wrap ((j:Int)+1)=((j+1:Nat):Int):=NS (by omega)
 have f:=fkI (p:=gt P j) (es:=es)
 have g:=Wz (gt P j) es 0
 rw [O] at g
 have m:(Sm T (P.take j)).length=j:=by unfold Sm;rw [Ou,N6];omega
 have et:Sm T (P.take (j+1))=Sm T (P.take j)++[(T (gt P j)).getD (-1)]:=by unfold Sm;rw [QH l,Pe];rfl
 have ad:lim<=G'.length:=by have:=q.len;omega
 have L:=q.len
 have kB:=fun Z=>(NZ.refl.app (X:=Z)).cells d
 obtain ⟨u,o⟩:∃u,u=(T (gt P j)).getD (-1):=⟨_,rfl⟩
 obtain ⟨W,e2,I,V,Y,ac,_⟩:=w.step (lim':=lim) (bytes:=8) (by have:=ND hB;omega) OU (by decide) u (by rw [m];unfold PM;omega) (by rw [m];omega) L [Vc [Vi u]] G'.length 1 (by rw [NN];rfl)
 rw [m] at e2
 simp only [Nj,Nl,N0,Na] at e2 I Y
 have C:NC W Bc=Vc [.slice p1 j J,Vz]:=(Y Bc (ND d) fun a t=>by have:=(w.block t).1;omega).trans d
 obtain ⟨G3,e3,k3,H⟩:=OO (ND C) (Vc [.slice (Sa (G'.length+1)) (j+1) (loose 1),Vz])
 have r:=fun Z=>(NZ.refl.app (X:=Z)).cells C
 have s:OW lim none 1 8 false (.slice p1 j J) (.slice (Sa G'.length) 1 1) (G'++[Vc [Vi u]])=some (.slice (Sa (G'.length+1)) (j+1) (loose 1),W++[]):=by rw [Na];exact e2
 cases hc:fk (gt P j) es 0 with
 | some x=>
   obtain ⟨i,v⟩:=x
   rw [hc] at f g
   simp only [Nz] at f g
   have U:v=u:=by rw [o,<-g];rfl
   rw [U] at f
   simp only [n18,f12,f17,h,b,k,l,lP,xP,kR,w1,kB,f,s,r,e3,B,SB,seval,NJ,NF,PW,place,NA]
   exact hN (j+1,Sa (G'.length+1),loose 1) _ _ ⟨by show j+1<=_;omega,⟨f4,f8,f11,f12⟩,f17,h,b,rfl,by rw [et,<-o];exact (I.mut H fun a t e=>by cases t;simp only at e;have:=ND d;omega).app _,by rw [Na];exact k3,(((V [Bc] G (by omega) q).mut (by rw [Na];exact H) (.inl (by simp)))).app⟩ (by show P.length-(j+1)<P.length-j;omega)
 | none=>
   rw [hc] at f g
   simp only [Ov] at f g
   have U:u=-1:=by rw [o,<-g];rfl
   rw [U] at s
   simp only [n18,f12,f17,h,b,k,l,lP,xP,kR,w1,kB,f,s,r,e3,B,SB,seval,NJ,NF,PW,place,NA]
   exact hN (j+1,Sa (G'.length+1),loose 1) _ _ ⟨by show j+1<=_;omega,⟨f4,f8,f11,f12⟩,f17,h,b,rfl,by rw [et,<-o];exact (I.mut H fun a t e=>by cases t;simp only at e;have:=ND d;omega).app _,by rw [Na];exact k3,(((V [Bc] G (by omega) q).mut (by rw [Na];exact H) (.inl (by simp)))).app⟩ (by show P.length-(j+1)<P.length-j;omega)
theorem Nl1 {w:(Leg×Int)×Nat}:(Vt w)[0]? = some (Vi w.1.1.id):=id rfl
theorem Zk {w:(Leg×Int)×Nat}:(Vt w)[1]? = some (Vi w.1.1.frm):=id rfl
theorem Zj {w:(Leg×Int)×Nat}:(Vt w)[2]? = some (Vi w.1.1.dst):=id rfl
theorem Ncv {w:(Leg×Int)×Nat}:(Vt w)[5]? = some (Vi w.1.1.cut):=id rfl
theorem Nwc {w:(Leg×Int)×Nat}:(Vt w)[6]? = some (Vi w.1.1.grams):=id rfl
theorem N16 {w:(Leg×Int)×Nat}:(Vt w)[8]? = some (Vi w.1.2):=id rfl
theorem N15 {w:(Leg×Int)×Nat}:(Vt w)[9]? = some (Vi (w.1.2+w.1.1.mins)):=id rfl
theorem Nn2 {w:(Leg×Int)×Nat}:(Vt w)[10]? = some (Vi w.2):=id rfl
theorem Xm {w:(Leg×Int)×Nat}:((Vt w).drop 8).take 2=[Vi w.1.2,Vi (w.1.2+w.1.1.mins)]:=id rfl
theorem Nbk:∀{C:List (Leg×Int)} {n j:Nat},j<C.length->gt (Tz n C) j=(gt C j,n+2*j)
 | c::C,n,0,_=>rfl
 | c::C,n,j+1,h=>by
   rw [Tz,OT,OT,Nbk (by simpa using h)]
   congr 1;omega
theorem Nt2 [OB] {lim A R B4 B8 Bc P cw:Nat} {x0:Value} {G:NB} {fr:Nat->Value} {pw:Option Addr} {C:List (Leg×Int)} {es:List (Int×Int)} {T:Int->Option Int} {K:List AItem} {Q:Value->NB->Prop}
  (hf:BQ fr B4 B8 A R) (sw:Sl G Vt 11 pw (Tz P C)) (hC:∀c∈C,Fine c.1/\0<=c.2/\c.2+c.1.mins<=OP) (hn:C.length<2 ^ 40) (hR:NC G R=.map (Sz kI vI es)) (ag:∀p,TK p es=T p) (f17:fr 17=Vp Bc) (hB:NC G Bc=Vc [x0,Vz]) (ah:∀a,pw=some a->C≠[]->a.block≠Bc) (U:lim<=Bc)
  (f:fr 108=.slice pw C.length cw) (d:fr 109=Vi C.length) (g:fr 110=Vi 0)
  (hK:∀fr' G' q c k,BQ fr' B4 B8 A R->fr' 17=Vp Bc->k=(TE T C).length->Own G.length G' QI 4 q c (TE T C)->NC G' Bc=Vc [x0,.slice q k c]->Chg [Bc] G G'->PI E a18 lim K fr' G' Q) :
  PI E a18 lim (.code (.loop Nu7)::.inBlock 4::K) fr G Q:=by
 have aj:=ND hB
 refine NM (fun z:Nat×Option Addr×Nat×Nat=>C.length-z.1) (fun z fr G'=>z.1<=C.length/\BQ fr B4 B8 A R/\fr 17=Vp Bc/\fr 108=.slice pw C.length cw/\fr 109=Vi C.length/\fr 110=Vi z.1/\z.2.2.2=(TE T (C.take z.1)).length/\Own G.length G' QI 4 z.2.1 z.2.2.1 (TE T (C.take z.1))/\NC G' Bc=Vc [x0,.slice z.2.1 z.2.2.2 z.2.2.1]/\Chg [Bc] G G') (0,none,0,0)
  ⟨Nv _,hf,f17,f,d,g,rfl,.nil,hB,Chg.refl⟩ ?_
 rintro ⟨j,q,F,k⟩ fr G' ⟨hj,hf,f17,f,d,g,B,D,h,o⟩ J
 simp only at hj g B D h
 obtain ⟨f4,f8,f11,f12⟩:=hf
 rw [NQ Nu7.eq_1]
 refine NI ?_
 by_cases m:j<C.length
 case neg=>
  obtain rfl:j=C.length:=by omega
  rw [Of] at D B
  simp only [n18,d,g,m,SB,seval,NJ,NF]
  refine hK _ _ q F k ⟨f4,f8,f11,f12⟩ f17 B (D.app _) ?_ o.app
  rw [Na];exact h
 have ai:(Tz P C).length=C.length:=WH
 have W:Sl G' Vt 11 pw (Tz P C):=o.sl sw fun a L hn=>by
  rw [Ni]
  exact ah a L fun e=>hn (by rw [e];rfl)
 have I:=fun Z=>(W.app Z).loadCells SK (i:=j) (by omega)
 have eW:=Nbk (n:=P) m
 simp only [eW] at I
 have O:=QN W m ai
 have ad:R≠Bc:=fun e=>by rw [e,hB] at hR;cases hR
 have ae:=UM hR
 have ac:=o.len
 have M:∀Z,NC (G'++Z) R=.map (Sz kI vI es):=fun Z=>by rw [NK (by omega),o.other R ae (by rw [Ni];exact ad)];exact hR
 have N:IntKind.i64.wrap ((j:Int)+1)=((j+1:Nat):Int):=NS (by omega)
 have v:lim<=G'.length:=by omega
 obtain ⟨hF,ak,am⟩:=hC _ (PK m)
 have aa:=hF
 unfold Fine at aa
 have mt:OP=1051898399:=rfl
 have Y:IntKind.i64.wrap ((gt C j).2-(gt C j).1.cut)=(gt C j).2-(gt C j).1.cut:=NY (by omega) (by omega)
 have r:=fkI (p:=(gt C j).1.frm) (es:=es)
 have s:=Wz (gt C j).1.frm es 0
 have b:=fkI (p:=(gt C j).1.dst) (es:=es)
 have l:=Wz (gt C j).1.dst es 0
 rw [ag] at s l
 have w:TE T (C.take (j+1))=TE T (C.take j)++(if WN T (gt C j)=true then [Tv (gt C j)] else []):=by
  unfold TE
  rw [QH m,List.filter_append,Pe,List.filter_cons,List.filter_nil]
  split<;>rfl
 have an:k<=j:=by
  rw [B];unfold TE
  rw [Ou]
  have:=Ro (WN T) (C.take j)
  rw [N6] at this;omega
 have kB:=fun Z=>(NZ.refl.app (X:=Z)).cells h
 obtain ⟨G2,e2,O2,C2,K2,ao,_⟩:=D.step (lim':=lim) (bytes:=32) (by omega) NU (by decide) (Tv (gt C j)) (by rw [<-B];unfold PM;omega) (by rw [<-B];omega) ac [Vc (Vt (gt C j,P+2*j)),Vc [Vi (gt C j).2,Vi ((gt C j).2+(gt C j).1.mins)],Vc (QI (Tv (gt C j)))] (G'.length+2) 1 (by rw [OL];rfl)
 rw [<-B] at e2
 simp only [Nj,Nl,N0,Na,Nat.reduceAdd] at e2 O2 K2
 have V:NC G2 Bc=Vc [x0,.slice q k F]:=(K2 Bc (ND h) fun a L=>by have:=(D.block L).1;omega).trans h
 obtain ⟨G3,e3,k3,m3⟩:=OO (ND V) (Vc [x0,.slice (Sa (G'.length+3)) (k+1) (loose 4)])
 have H:=fun Z=>(NZ.refl.app (X:=Z)).cells V
 have S:OW lim none 4 32 false (.slice q k F) (.slice (Sa (G'.length+2)) 1 1) (G'++[Vc (Vt (gt C j,P+2*j)),Vc [Vi (gt C j).2,Vi ((gt C j).2+(gt C j).1.mins)],Vc [Vi (gt C j).1.id,Vi (gt C j).2,Vi ((gt C j).2+(gt C j).1.mins),Vi (gt C j).1.grams]])=some (.slice (Sa (G'.length+3)) (k+1) (loose 4),G2++[]):=by rw [Na];exact e2
 cases hc:fk (gt C j).1.frm es 0 with
 | none=>
   rw [hc] at r s
   simp only [Ov] at r s
   have t:WN T (gt C j)=false:=by unfold WN Flow.late;rw [<-s];rfl
   cases hc2:fk (gt C j).1.dst es 0 with
   | none=>
     rw [hc2] at b
     simp only [Ov] at b
     simp only [n18,f12,f,d,g,m,I,O,M,N,v,SK,Zk,Zj,Xm,NL,r,b,SB,seval,NJ,NF,place,NA]
     exact J (j+1,q,F,k) _ _ ⟨by show j+1<=_;omega,⟨f4,f8,f11,f12⟩,f17,f,d,rfl,by rw [w,t];simpa using B,by rw [w,t];simpa using D.app _,by rw [NK (ND h)];exact h,o.app⟩ (by show C.length-(j+1)<C.length-j;omega)
   | some y=>
     obtain ⟨i2,v2⟩:=y
     rw [hc2] at b
     simp only [Nz] at b
     simp only [n18,f12,f,d,g,m,I,O,M,N,v,SK,Zk,Zj,Xm,NL,r,b,SB,seval,NJ,NF,place,NA]
     exact J (j+1,q,F,k) _ _ ⟨by show j+1<=_;omega,⟨f4,f8,f11,f12⟩,f17,f,d,rfl,by rw [w,t];simpa using B,by rw [w,t];simpa using D.app _,by rw [NK (ND h)];exact h,o.app⟩ (by show C.length-(j+1)<C.length-j;omega)
 | some x=>
   obtain ⟨i1,u⟩:=x
   rw [hc] at r s
   simp only [Nz] at r s
   by_cases g1:u<=(gt C j).2-(gt C j).1.cut
   case neg=>
    have t:WN T (gt C j)=false:=by unfold WN Flow.late;rw [<-s];simp;omega
    cases hc2:fk (gt C j).1.dst es 0 with
    | none=>
      rw [hc2] at b
      simp only [Ov] at b
      simp only [n18,f12,f,d,g,m,I,O,M,N,Y,v,SK,Zk,Zj,Ncv,Xm,NL,r,b,Nn g1,SB,seval,NJ,NF,place,NA]
      exact J (j+1,q,F,k) _ _ ⟨by show j+1<=_;omega,⟨f4,f8,f11,f12⟩,f17,f,d,rfl,by rw [w,t];simpa using B,by rw [w,t];simpa using D.app _,by rw [NK (ND h)];exact h,o.app⟩ (by show C.length-(j+1)<C.length-j;omega)
    | some y=>
      obtain ⟨i2,v2⟩:=y
      rw [hc2] at b
      simp only [Nz] at b
      simp only [n18,f12,f,d,g,m,I,O,M,N,Y,v,SK,Zk,Zj,Ncv,Xm,NL,r,b,Nn g1,SB,seval,NJ,NF,place,NA]
      exact J (j+1,q,F,k) _ _ ⟨by show j+1<=_;omega,⟨f4,f8,f11,f12⟩,f17,f,d,rfl,by rw [w,t];simpa using B,by rw [w,t];simpa using D.app _,by rw [NK (ND h)];exact h,o.app⟩ (by show C.length-(j+1)<C.length-j;omega)
   cases hc2:fk (gt C j).1.dst es 0 with
   | none=>
     rw [hc2] at b l
     simp only [Ov] at b l
     have t:WN T (gt C j)=true:=by unfold WN Flow.late;rw [<-s,<-l];simp;omega
     simp only [n18,f12,f17,f,d,g,m,I,O,M,N,Y,v,kB,SK,Nl1,Zk,Zj,Ncv,Nwc,Xm,NL,r,b,Nq g1,S,H,e3,U,SB,seval,NJ,NF,PW,place,NA]
     exact J (j+1,Sa (G'.length+3),loose 4,k+1) _ _ ⟨by show j+1<=_;omega,⟨f4,f8,f11,f12⟩,f17,f,d,rfl,by rw [w,t,Nk rfl,Nb,<-B];rfl,by rw [w,t,Nk rfl];exact (O2.mut m3 fun a L e=>by cases L;simp only at e;have:=ND h;omega).app _,by rw [Na];exact k3,(((C2 [Bc] G (by omega) o).mut (by rw [Na];exact m3) (.inl (by simp)))).app⟩ (by show C.length-(j+1)<C.length-j;omega)
   | some y=>
     obtain ⟨i2,v2⟩:=y
     rw [hc2] at b l
     simp only [Nz] at b l
     by_cases g2:(gt C j).2+(gt C j).1.mins<v2
     ·have t:WN T (gt C j)=true:=by unfold WN Flow.late;rw [<-s,<-l];simp;omega
      simp only [n18,f12,f17,f,d,g,m,I,O,M,N,Y,v,kB,SK,Nl1,Zk,Zj,Ncv,Nwc,Xm,NL,r,b,Nq g1,Nq g2,S,H,e3,U,SB,seval,NJ,NF,PW,place,NA]
      exact J (j+1,Sa (G'.length+3),loose 4,k+1) _ _ ⟨by show j+1<=_;omega,⟨f4,f8,f11,f12⟩,f17,f,d,rfl,by rw [w,t,Nk rfl,Nb,<-B];rfl,by rw [w,t,Nk rfl];exact (O2.mut m3 fun a L e=>by cases L;simp only at e;have:=ND h;omega).app _,by rw [Na];exact k3,(((C2 [Bc] G (by omega) o).mut (by rw [Na];exact m3) (.inl (by simp)))).app⟩ (by show C.length-(j+1)<C.length-j;omega)
     ·have t:WN T (gt C j)=false:=by unfold WN Flow.late;rw [<-s,<-l];simp;omega
      simp only [n18,f12,f,d,g,m,I,O,M,N,Y,v,SK,Zk,Zj,Ncv,Xm,NL,r,b,Nq g1,Nn g2,SB,seval,NJ,NF,PW,place,NA]
      exact J (j+1,q,F,k) _ _ ⟨by show j+1<=_;omega,⟨f4,f8,f11,f12⟩,f17,f,d,rfl,by rw [w,t];simpa using B,by rw [w,t];simpa using D.app _,by rw [NK (ND h)];exact h,o.app⟩ (by show C.length-(j+1)<C.length-j;omega)
theorem Nw1 [OB] {lim:Nat} {pp pl ps:Option Addr} {P:List Int} {L:List Leg} {s:List Flow.Src} {cp cl cs:Nat} {to dl:Int} {H:NB} {Q:Value->NB->Prop} (hn:NetIn H pp pl P L) (e:Sl H encS 3 ps s) (a:s.length<2 ^ 63) (b:lim<=H.length) (d:OC P L s to dl≠0)
  (c:∀G,Chg [] H G->Q (.tuple #[.agg #[Vz,Vz],Vi (OC P L s to dl)]) G) :
  NR E false lim 18 [.agg (QJ pp P.length cp pl L.length cl).toArray,.slice ps s.length cs,Vi to,Vi dl] H Q:=by
 refine Te (by decide) e18 rfl ?_
 rw [b18,c18]
 refine NI ?_
 simp only [n18,r18,OG,TQ (hn.app _) (e.app _) a,Nn d,show lim<=H.length+1 by omega,SB,seval,NE,NJ,NF,NH,place,NA,NG]
 exact c _ Chg.refl.app
theorem Ncz {T:Int->Option Int} {C:List (Leg×Int)}:(TE T C).length<=C.length:=by
 unfold TE
 rw [Ou]
 exact Ro _ _
theorem bind_ok [OB] {lim:Nat} {pp pl ps:Option Addr} {P:List Int} {L:List Leg} {s:List Flow.Src} {cp cl cs:Nat} {to dl:Int} {H:NB} {Q:Value->NB->Prop} (hn:NetIn H pp pl P L) (hs:Sl H encS 3 ps s) (aj:L.length<=8) (an:P.length<2 ^ 40) (bb:lim<=H.length) (f:OC P L s to dl=0)
  (hQ:∀G pt ct q c SD,Own (H.length+2) G encI 1 pt ct (Sm (VL s (NP L to dl) to dl) P)->Own (H.length+2) G QI 4 q c SD->SD.Perm (TE (VL s (NP L to dl) to dl) (NP L to dl))->SD.Pairwise (fun x y=>¬RH y x)->Chg [] H G->Q (.tuple #[.agg #[.slice pt P.length ct,.slice q SD.length c],Vi 0]) G) :
  NR E false lim 18 [.agg (QJ pp P.length cp pl L.length cl).toArray,.slice ps s.length cs,Vi to,Vi dl] H Q:=by
 have t:=S9 f
 have a2:s.length<2 ^ 63:=by have:=t.ns;omega
 have ah:∀c∈NP L to dl,Fine c.1/\0<=c.2/\c.2+c.1.mins<=OP:=fun c hc=>by
  obtain ⟨h1,h2,d,_,h3,h4,h5⟩:=QT hc
  have:=t.d1
  exact ⟨t.net.fine _ h1,by omega,by omega⟩
 have bg:=SC (to:=to) (dl:=dl) t.net.fine
 refine Te (by decide) e18 rfl ?_
 rw [b18,c18]
 refine NI ?_
 simp only [n18,OG,TQ (hn.app _) (hs.app _) a2,f,SB,seval,NE,NJ,NF,NH,place,NA]
 refine Ndb (by simp;omega) (hs.app _) (hn.app _).sl t.net.fine aj t.d0 t.d1 (by have:=t.ns;omega) (fun x hx=>(t.src x hx).2) fun G A SL Lv l out Lb bc ca cv cw bl pa pw vm vo v5 hB=>?_
 have kA:=fun Z=>(NZ.refl.app (X:=Z)).cells hB.hdr
 have ai:=hB.len
 simp only [Nb,Nj,Nl] at ai
 have S:=hB.new
 simp only [Nb,Nj,Nl] at S
 have b4:NC G H.length=Vc (QJ pp P.length cp pl L.length cl):=by
  rw [hB.keep _ (by simp)];exact NN
 have b8:NC G (H.length+1)=Vc [Vz,Vz]:=by
  rw [hB.keep _ (by simp)];exact OL
 have k4:=fun Z=>(NZ.refl.app (X:=Z)).cells b4
 refine NI ?_
 simp only [n18,QE,kA,k4,SB,seval,NJ,place]
 obtain ⟨T,hT⟩:∃T,T=VL s (NP L to dl) to dl:=⟨_,rfl⟩
 rw [<-hT] at hQ
 have eT:firstT (RJ Lv) SL 2=T:=by rw [hT];exact (SG hB.best).2
 have ag:Chg [] H G:=⟨by omega,fun j v _=>(hB.keep j (by simp;omega)).trans (NK v)⟩
 have bk:=hB.ns
 refine Nyq (B4:=H.length) (B8:=H.length+1) (A:=A) (R:=G.length) ⟨rfl,rfl,rfl,rfl⟩ (kA _) (hB.sp.app _) ((NZ.refl.app).cells hB.sl) hB.ll (by omega) NN (by omega) rfl rfl rfl fun fr1 G1 es aq J I i=>?_
 rw [eT] at J
 obtain ⟨f4,f8,f11,f12⟩:=aq
 have aw:=i.len
 simp only [Nb,Nj,Nl] at aw
 have D:Chg [] H G1:=(ag.app).trans' i fun j v hl=>by rw [Ni] at v;omega
 have c4:=i.cells (k4 _) (by rw [Ni];omega)
 have c8:=i.cells ((NZ.refl.app (X:=[Blk.map []])).cells b8) (by rw [Ni];omega)
 have bf:=ND hB.hdr
 have cA:=i.cells (kA _) (by rw [Ni];omega)
 have Y:=fun Z=>(NZ.refl.app (X:=Z)).cells c4
 have ac:=fun Z=>(NZ.refl.app (X:=Z)).cells cA
 have K:∀a,pw=some a->NP L to dl≠[]->a.block<G.length:=fun a f g=>by
  have:=hB.sw
  rw [f] at this
  refine this.lt fun e=>g (List.length_eq_zero_iff.1 ?_)
  rw [<-WH (n:=2*(PG SL 2++Sj SL to dl s).length),e];rfl
 have a8:Sl G1 Vt 11 pw (Tz (2*(PG SL 2++Sj SL to dl s).length) (NP L to dl)):=i.sl (hB.sw.app _) fun a f g=>by
  rw [Ni]
  have:=K a f fun e=>g (by rw [e];rfl)
  omega
 refine NI ?_
 simp only [n18,QE,f4,Y,SB,seval,NJ,place]
 have a6:Sl G1 encI 1 pp P:=(D.sl hn.sp fun a _ _ h=>by cases h)
 refine Nsk (B4:=H.length) (B8:=H.length+1) (A:=A) (R:=G.length) (Bc:=G1.length) (T:=T) (es:=es) (cp2:=cp) ⟨f4,f8,f11,f12⟩ (a6.app _) an (by rw [NK (UM I)];exact I) J rfl NN (by omega) rfl rfl rfl fun bd W pt ct au f17 o ad m=>?_
 clear f4 f8 f11 f12
 obtain ⟨f4,f8,f11,f12⟩:=au
 have ay:=m.len
 simp only [Nb,Nj,Nl] at ay o
 have U:∀b,b<G1.length->b∉[G1.length]:=fun b hb=>by rw [Ni];omega
 have aa:=fun Z=>(NZ.refl.app (X:=Z)).cells (m.cells (ac _) (U A (by omega)))
 refine NI ?_
 simp only [n18,f11,aa,SB,seval,NJ]
 have ao:NC W G.length=.map (Sz kI vI es):=by
  rw [m.other _ (by simp;omega) (U _ (by omega)),NK (by omega)];exact I
 have ba:Sl W Vt 11 pw (Tz (2*(PG SL 2++Sj SL to dl s).length) (NP L to dl)):=m.sl (a8.app _) fun a f g=>by
  have:=K a f fun e=>g (by rw [e];rfl)
  exact U _ (by omega)
 refine Nt2 (B4:=H.length) (B8:=H.length+1) (A:=A) (R:=G.length) (Bc:=G1.length) (T:=T) (es:=es) (C:=NP L to dl) (cw:=cw) ⟨f4,f8,f11,f12⟩ (ba.app _) ah (by omega) (by rw [Na];exact ao) J f17 (by rw [Na];exact ad) (fun a f g=>by have:=K a f g;omega) (by omega) rfl rfl rfl fun be V q c k av f17 hk p N u=>?_
 clear f4 f8 f11 f12
 obtain ⟨f4,f8,f11,f12⟩:=av
 have az:=u.len
 simp only [Nb,Nl,Oj] at az p
 have F:Own (G1.length+1) V encI 1 pt ct (Sm T P):=(o.app []).chg u fun a f=>by
  have:=(o.block f).1
  rw [Ni];omega
 have a5:=fun Z=>(NZ.refl.app (X:=Z)).cells N
 refine NI ?_
 simp only [n18,f17,a5,SB,seval,NE,NJ]
 have bh:(TE T (NP L to dl)).length<=(NP L to dl).length:=Ncz
 rw [hk]
 refine Nhq (p.app _) (by omega) (by omega) fun G4 SD ak r a1 O a0=>?_
 simp only [Nb,Nl,Oj] at a0 O
 have nq:∀b,b<W.length->b∉PZ q:=fun b hb hm=>by
  obtain ⟨a,f,rfl⟩:=NT.1 hm
  have:=(p.block f).1;omega
 have w:∀b,b<V.length->b∉PZ q->NC G4 b=NC V b:=fun b h1 h2=>by rw [O b h1 h2,Na]
 have ae:=(w G1.length (by omega) (nq _ (by omega))).trans N
 have z:=fun Z=>(NZ.refl.app (X:=Z)).cells ae
 have c83:NC G4 (H.length+1)=Vc [Vz,Vz]:=by
  have:=m.cells ((NZ.refl.app (X:=[Vc [Vz,Vz]])).cells c8) (U (H.length+1) (by omega))
  have:=u.cells ((NZ.refl.app (X:=[])).cells this) (U (H.length+1) (by omega))
  exact (w _ (by omega) (nq _ (by omega))).trans this
 obtain ⟨G5,e5,k5,m5⟩:=OO (ND c83) (Vc [.slice pt P.length ct,.slice q SD.length c])
 have a3:=fun Z=>(NZ.refl.app (X:=Z)).cells k5
 have M:=fun Z=>(NZ.refl.app (X:=Z)).cells c83
 refine NI ?_
 rw [hk,<-r.length_eq] at z
 simp only [n18,r18,f8,f17,z,M,e5,a3,show lim<=H.length+1 by omega,SB,seval,NJ,NA,NG]
 have am:Own (G1.length+1) G5 encI 1 pt ct (Sm T P):=(RN F fun a f=>w _ (F.block f).2 fun hm=>by
  obtain ⟨a',ap,e⟩:=NT.1 hm
  have h1:=(p.block ap).1
  have h2:=(o.block f).2
  omega).mut m5 fun a f e=>by have:=(o.block f).1;omega
 refine hQ _ pt ct q c SD ((am.le (by omega)).app _) (((ak.mut m5 fun a f e=>by have:=(p.block f).1;omega).le (by omega)).app _) r a1 ?_
 have B:Chg [] H V:=(((D.app).trans' m fun j v hl=>by rw [Ni] at v;omega).app).trans' u fun j v hl=>by rw [Ni] at v;omega
 refine (Chg.mut ?_ m5 (.inr (by omega))).app
 refine ⟨by have:=B.len;omega,fun j v _=>(w j (by omega) (nq _ (by omega))).trans (B.other j v (by simp))⟩
end Go.Proofs.YtohnaffmcjbpoaaGreat.Fn


namespace Go.Flow
open Go.AM Go.Net
def upC (l:Leg) (dl:Int) (k:Nat):List (Leg×Int):=(List.range k).flatMap (UQ l dl)
theorem Nbo {l:Leg} {dl:Int} {k:Nat}:upC l dl (k+1)=upC l dl k++UQ l dl k:=by
 unfold upC
 rw [Ra,Pc,N2,Qz,Na]
theorem Nwk {l:Leg} {dl:Int} {k:Nat}:(UQ l dl k).length<=1:=by unfold UQ;split<;>simp
theorem Nmm {l:Leg} {dl:Int}:∀{k:Nat},(upC l dl k).length<=k
 | 0=>by simp [upC]
 | k+1=>by
   have:=Nmm (l:=l) (dl:=dl) (k:=k)
   have:=Nwk (l:=l) (dl:=dl) (k:=k)
   rw [Nbo,Nb];omega
theorem Nej {l:Leg} {dl:Int} (hl:Fine l):∀{k:Nat},(k:Int)<=max 0 (dl-20160) / 1440->upC l dl k=[]
 | 0,_=>rfl
 | k+1,h=>by rw [Nbo,Nej hl (by omega),Nc2 hl (by omega)];rfl
theorem Nji {L:List Leg} {to dl:Int} {i:Nat} (h:i<L.length):NP (L.take (i+1)) to dl=NP (L.take i) to dl++Xe to dl (gt L i):=by
 unfold NP
 rw [QH h,Pc,N2,Qz,Na]
end Go.Flow
namespace Go.Proofs.YtohnaffmcjbpoaaGreat.Fn
open Go.AM Go.AM.Sym Go.Net Go.Flow
theorem Ny1 {dl:Int} (h:0<=dl) (h1:dl<=OP):IntKind.i64.wrap (Int.tdiv dl 1440)=dl / 1440:=by
 have mt:OP=1051898399:=rfl
 rw [Pv h];exact NY (by omega) (by omega)
theorem Nq4 {dl:Int} (h:0<=dl) (h1:dl<=OP):∃d0:Int,IntKind.i64.wrap (Int.tdiv (dl-20160) 1440)=d0/\-15<=d0/\d0<=dl / 1440/\((d0.toNat:Nat):Int)<=max 0 (dl-20160) / 1440:=by
 have mt:OP=1051898399:=rfl
 by_cases h2:20160<=dl
 ·refine ⟨(dl-20160) / 1440, ?_,by omega,by omega,by omega⟩
  rw [Pv (by omega)];exact NY (by omega) (by omega)
 ·have e:Int.tdiv (dl-20160) 1440=-((20160-dl) / 1440):=by
   rw [show dl-20160=-(20160-dl) by omega,Int.neg_tdiv,Pv (by omega)]
  refine ⟨-((20160-dl) / 1440), ?_,by omega,by omega,by omega⟩
  rw [e];exact NY (by omega) (by omega)
structure WIn (H:NB) (pp pl ps pt:Option Addr) (P V:List Int) (L:List Leg) (s:List Flow.Src):Prop where
 sp:Sl H encI 1 pp P
 np:P.length<2 ^ 62
 sl:Sl H QO 8 pl L
 nl:L.length<=8
 ss:Sl H encS 3 ps s
 ns:s.length<=60
 sv:Sl H encI 1 pt V
 nv:V.length=P.length
 fine:∀l∈L,Fine l/\l.frm∈P/\l.dst∈P
 src:∀x∈s,SOk P x
theorem WIn.ext {H G:NB} {pp pl ps pt:Option Addr} {P V:List Int} {L:List Leg} {s:List Flow.Src} (h:WIn H pp pl ps pt P V L s) (a:NZ H G):WIn G pp pl ps pt P V L s:=⟨a.sl h.sp,h.np,a.sl h.sl,h.nl,a.sl h.ss,h.ns,a.sl h.sv,h.nv,h.fine,h.src⟩
section
variable {H:NB} {pp pl ps pt q:Option Addr} {P V:List Int} {L:List Leg} {s:List Flow.Src} {cp cl cs ct nq cq:Nat} {to dl:Int}
end
theorem Nvv {T:Int->Option Int} {P:List Int} {i:Nat} (h:i<P.length):gt (Sm T P) i=(T (gt P i)).getD (-1):=by
 unfold Sm
 rw [OJ (by simpa using h),OJ h,Qy]
theorem N1q {a b:Flow.Ld}:aEq (.agg [.int .i64,.int .i64,.int .i64,.int .i64]) (.agg (QI a).toArray) (.agg (QI b).toArray)=some (decide (a=b)):=by
 simp only [aEq,QI,PR,U5,and_self,if_true]
 congr 1
 rw [Rb]
 cases a;cases b
 simp []
theorem Nmz [OB] {mp:Bool} {lim ca cb:Nat} {p q:Option Addr} {a b:List Flow.Ld} {H:NB} {Q:Value->NB->Prop} (m:Sl H QI 4 p a) (n:Sl H QI 4 q b) (hn:a.length<2 ^ 62) :
  NR E mp lim 23 [.slice p a.length ca,.slice q b.length cb] H Q=Q (.bool (decide (a=b))) H:=by
 refine pc (by decide) e23 rfl rfl ?_
 rw [b23,c23]
 by_cases hl:a.length=b.length
 case neg=>
  have h1:¬(a.length:Int)=(b.length:Int):=by omega
  simp only [n23,r23,Nn h1,SB,seval,NJ,NF,reduceCtorEq,NH,NG]
  congr 1
  rw [eq_comm,decide_eq_false_iff_not]
  rintro rfl
  exact hl rfl
 have h1:(a.length:Int)=(b.length:Int):=by omega
 simp only [n23,Nq h1,SB,seval,NJ,NF,reduceCtorEq,NH]
 refine NM (fun j=>a.length-j) (fun j fr G=>j<=a.length/\fr 0=.slice p a.length ca/\fr 1=.slice q b.length cb/\fr 5=Vi j/\NZ H G/\∀i,i<j->gt a i=gt b i) 0 ⟨Nv _,rfl,rfl,by rfl,NZ.refl.app,fun i hi=>by omega⟩ ?_
 intro j fr G ⟨u,g,f1,f5,f,e⟩ t
 rw [NQ N0o.eq_1]
 refine NI ?_
 by_cases d:j<a.length
 case neg=>
  obtain rfl:j=a.length:=by omega
  simp only [n23,r23,g,f5,d,SB,seval,NJ,NF,reduceCtorEq,NG]
  rw [No (Nhu hl e)]
 have l1:=fun X=>((f.sl m).app X).loadCells NU d
 have o:=fun X=>((f.sl n).app X).loadCells NU (by omega:j<b.length)
 have r:=fun c (kk:IntKind) (H1:NB)=>(f.sl m).idx (c:=c) (k:=kk) (H1:=H1) d
 have s:=fun c (kk:IntKind) (H1:NB)=>(f.sl n).idx (c:=c) (k:=kk) (H1:=H1) (by omega:j<b.length)
 have l:IntKind.i64.wrap ((j:Int)+1)=((j+1:Nat):Int):=NS (by omega)
 have h:=N1q (a:=gt a j) (b:=gt b j)
 by_cases he:gt a j=gt b j
 ·rw [No he] at h
  simp only [n23,g,f1,f5,d,l1,o,r,s,l,h,SB,seval,NJ,NF,reduceCtorEq]
  exact t (j+1) _ _ ⟨by omega,g,f1,rfl,f.app,Nes hl d e he⟩ (by omega)
 ·rw [Nx he] at h
  simp only [n23,r23,g,f1,f5,d,l1,o,r,s,h,SB,seval,NJ,NF,reduceCtorEq,NG]
  rw [Nx]
  rintro rfl
  exact he rfl
theorem ZK {P:List Int} {L:List Leg} (h:QB P L=0) {a b:Leg} (f:a∈L) (g:b∈L) (e:a.id=b.id):a=b:=by
 have d:=(UX h).2.2.2
 obtain ⟨i,hi,rfl⟩:=List.mem_iff_getElem.1 f
 obtain ⟨j,c,rfl⟩:=List.mem_iff_getElem.1 g
 have key:∀i j,(hi:i<L.length)->(c:j<L.length)->i<j->L[i].id≠L[j].id:=fun i j hi c k e=>by
  have:=(d j c).2.1
  rw [OJ c,<-e] at this
  exact this (List.mem_map.2 ⟨L[i],List.mem_take_iff_getElem.2 ⟨i,by omega,rfl⟩,rfl⟩)
 rcases Nat.lt_trichotomy i j with h1 | h1 | h1
 ·exact absurd e (key i j hi c h1)
 ·subst h1;rfl
 ·exact absurd e.symm (key j i c hi h1)
theorem Nq5 {P:List Int} {L:List Leg} {to dl:Int} {T:Int->Option Int} (h:QB P L=0):∀x∈TE T (NP L to dl),∀y∈TE T (NP L to dl),x.dep=y.dep->x.leg=y.leg->x=y:=fun x e y f e1 e2=>by
 obtain ⟨c,hc,rfl⟩:=List.mem_map.1 e
 obtain ⟨d,hd,rfl⟩:=List.mem_map.1 f
 have a:=QT (Pn.1 hc).1
 have b:=QT (Pn.1 hd).1
 have e3:c.1=d.1:=ZK h a.1 b.1 e2
 have e4:c.2=d.2:=e1
 unfold Tv
 rw [e3,e4]
structure BP (fr:Nat->Value) (v1 v2 v3 v5 v11 v14 v16 v18:Value):Prop where
 f1:fr 1=v1
 f2:fr 2=v2
 f3:fr 3=v3
 f5:fr 5=v5
 f11:fr 11=v11
 f14:fr 14=v14
 f16:fr 16=v16
 f18:fr 18=v18
end Go.Proofs.YtohnaffmcjbpoaaGreat.Fn


namespace Go.Flow
open Go.AM Go.Net
def RI:List (Leg×Int)->List Pr->List Ld
 | c::C,p::l=>(if 0<p.flow then [⟨c.1.id,c.2,c.2+c.1.mins,p.flow⟩] else [])++RI C l
 | _,_=>[]
theorem Ncb:∀{C:List (Leg×Int)} {l:List Pr} {j:Nat},j<C.length->j<l.length->RI (C.take (j+1)) l=RI (C.take j) l++(if 0<(gt l j).flow then [⟨(gt C j).1.id,(gt C j).2,(gt C j).2+(gt C j).1.mins,(gt l j).flow⟩] else [])
 | c::C,p::l,0,_,_=>by
   show RI [c] (p::l)=[]++_
   have:RI [] l=[]:=by cases l<;>rfl
   simp only [RI,Na,Ob]
   rfl
 | c::C,p::l,j+1,h1,h2=>by
   rw [Pt,Pt,RI,RI,Ncb (by simpa using h1) (by simpa using h2),OT,OT,Nr]
theorem Yz:∀{C:List (Leg×Int)} {l:List Pr},(RI C l).length<=C.length
 | [],l=>by cases l<;>simp [RI]
 | c::C,[]=>by simp [RI]
 | c::C,p::l=>by
   have:=Yz (C:=C) (l:=l)
   unfold RI
   rw [Nb,Nj]
   split<;>simp<;>omega
theorem Nym {α:Type} [Inhabited α] {l:List α} {n j:Nat}:gt (l.drop n) j=gt l (n+j):=by
 unfold gt
 rw [Nc,Nc,Q5]
end Go.Flow
namespace Go.Proofs.YtohnaffmcjbpoaaGreat.Fn
open Go.AM Go.AM.Sym Go.Net Go.Flow
theorem Ns1 [OB] {lim:Nat} {pp pl ps:Option Addr} {P:List Int} {L:List Leg} {s:List Flow.Src} {cp cl cs:Nat} {to dl:Int} {H:NB} {Q:Value->NB->Prop} (hn:NetIn H pp pl P L) (e:Sl H encS 3 ps s) (a:s.length<2 ^ 63) (b:lim<=H.length) (d:OC P L s to dl≠0)
  (c:∀G,Chg [] H G->Q (.tuple #[Vz,Vi (OC P L s to dl)]) G) :
  NR E false lim 21 [.agg (QJ pp P.length cp pl L.length cl).toArray,.slice ps s.length cs,Vi to,Vi dl] H Q:=by
 refine Te (by decide) e21 rfl ?_
 rw [b21,c21]
 refine NI ?_
 simp only [n21,r21,OG,TQ (hn.app _) (e.app _) a,Nn d,SB,seval,NE,NJ,NF,NH,place,NA,NG]
 exact c _ Chg.refl.app
structure PlanOf (P:List Int) (L:List Leg) (s:List Flow.Src) (to dl:Int) (SL:List (Int×Int)) (l:List Pr):Prop where
 pl:PlOk SL to dl s (NP L to dl)
 al:Flow.Alike (RO SL to dl s (NP L to dl)) l
 fl:IsFlow (SL.length+2) l
 val:Flow.exc 1 l=Wd s (NP L to dl) to dl
theorem Nm4 [OB] {lim:Nat} {pp pl ps:Option Addr} {P:List Int} {L:List Leg} {s:List Flow.Src} {cp cl cs:Nat} {to dl:Int} {H:NB} {Q:Value->NB->Prop} (hn:NetIn H pp pl P L) (hs:Sl H encS 3 ps s) (Y:L.length<=8) (ai:lim<=H.length) (ha:OC P L s to dl=0)
  (hQ:∀G q c SD SL l,Own H.length G QI 4 q c SD->SD.Perm (RI (NP L to dl) (l.drop (PG SL 2++Sj SL to dl s).length))->SD.Pairwise (fun x y=>¬RH y x)->PlanOf P L s to dl SL l->Chg [] H G->Q (.tuple #[.slice q SD.length c,Vi 0]) G) :
  NR E false lim 21 [.agg (QJ pp P.length cp pl L.length cl).toArray,.slice ps s.length cs,Vi to,Vi dl] H Q:=by
 have o:=S9 ha
 have ag:s.length<2 ^ 63:=by have:=o.ns;omega
 have V:=SC (to:=to) (dl:=dl) o.net.fine
 refine Te (by decide) e21 rfl ?_
 rw [b21,c21]
 refine NI ?_
 simp only [n21,OG,TQ (hn.app _) (hs.app _) ag,ha,SB,seval,NE,NJ,NF,NH,place,NA]
 refine Ndb (by simp;omega) (hs.app _) (hn.app _).sl o.net.fine Y o.d0 o.d1 (by have:=o.ns;omega) (fun x hx=>(o.src x hx).2) fun G A SL Lv l out Lb aj ca cv cw aq pa pw vm vo v5 hB=>?_
 have kA:=fun Z=>(NZ.refl.app (X:=Z)).cells hB.hdr
 have W:=hB.len
 simp only [Nb,Nj,Nl] at W
 have U:Chg [] H G:=⟨by omega,fun j hj _=>(hB.keep j (by simp;omega)).trans (NK hj)⟩
 obtain ⟨C,u⟩:∃C,C=NP L to dl:=⟨_,rfl⟩
 obtain ⟨n,m⟩:∃n,n=(PG SL 2++Sj SL to dl s).length:=⟨_,rfl⟩
 obtain ⟨X,hX⟩:∃X,X=l.drop n:=⟨_,rfl⟩
 have an:l.length=n+C.length:=by
  rw [hB.al.len,m,u]
  unfold RO
  rw [Nb (bs:=Tu SL to (NP L to dl)),WI]
 have ak:X.length=C.length:=by rw [hX,Ps];omega
 have J:=hB.sw
 rw [<-u,<-m] at J
 rw [<-u] at V
 have ap:=hB.ns
 have ao:n<2 ^ 40:=by
  have h1:=Z7 (PL:=SL) (to:=to) (dl:=dl) (s:=s)
  have h2:∀(PL:List (Int×Int)) (i:Nat),(PG PL i).length<=PL.length:=fun PL=>by
   induction PL with
   | nil=>intro i;simp [PG]
   | cons a PL ih=>
     intro i
     cases PL with
     | nil=>simp [PG]
     | cons b PL=>
       have:=ih (i+1)
       unfold PG
       rw [Nb,Nj]
       split<;>simp at this⊢<;> omega
  have:=h2 SL 2
  have:=o.ns
  rw [m,Nb];omega
 refine NI ?_
 rw [<-u] at kA
 simp only [n21,kA,SB,seval,NJ]
 refine NM (fun z:Nat×Option Addr×Nat=>C.length-z.1) (fun z fr G'=>z.1<=C.length/\fr 11=Vp A/\fr 32=.slice pw C.length cw/\fr 33=Vi C.length/\fr 34=Vi z.1/\fr 12=.slice z.2.1 (RI (C.take z.1) X).length z.2.2/\Own G.length G' QI 4 z.2.1 z.2.2 (RI (C.take z.1) X)/\Chg [] G G') (0,none,0)
  ⟨Nv _,rfl,rfl,rfl,by rfl,by rw [show RI (C.take 0) X=[] by cases X<;>rfl];rfl,by rw [show RI (C.take 0) X=[] by cases X<;>rfl];exact .nil,Chg.refl.app⟩ ?_
 rintro ⟨j,q,c⟩ fr G' ⟨hj,f11,f32,g,k,f12,v,d⟩ hN
 simp only at hj k f12 v
 rw [NQ N0p.eq_1]
 refine NI ?_
 have w:=d.len
 have F:=Yz (C:=C.take j) (l:=X)
 rw [N6] at F
 by_cases f:j<C.length
 case neg=>
  obtain rfl:j=C.length:=by omega
  rw [Of] at v f12
  simp only [n21,g,k,f12,f,SB,seval,NE,NJ,NF]
  rw [Of] at F
  refine Nhq (v.app _) (by omega) (by omega) fun G4 SD aa h ae B ad=>?_
  simp only [Nb,Nl,Oj] at ad B
  refine NI ?_
  simp only [n21,r21,f12,SB,seval,NJ,NG]
  have I:=h.length_eq
  rw [<-I]
  refine hQ _ q c SD SL l ((aa.le (by omega)).app _) (by rw [<-u,<-m,<-hX];exact h) ae ⟨hB.pl,hB.al,hB.fl,(SG hB.best).1⟩ ?_
  refine Chg.app ⟨by omega,fun b hb _=>?_⟩
  rw [B b (by omega) fun hm=>by obtain ⟨a,t,e⟩:=NT.1 hm;have:=(v.block t).1;omega,Na,d.other b (by omega) (by simp),U.other b hb (by simp)]
 have ah:(Tz (2*n) C).length=C.length:=WH
 have O:=d.sl J fun _ _ _=>by simp
 have R:=fun Z=>(O.app Z).loadCells SK (i:=j) (by omega)
 have eW:=Nbk (n:=2*n) f
 simp only [eW] at R
 have xW:=QN O f ah
 have N:=d.sl hB.sa fun _ _ _=>by simp
 have K:=hB.hdr
 rw [<-u] at K
 have M:=fun Z=>(NZ.refl.app (X:=Z)).cells (d.cells K (by simp))
 obtain ⟨a,t⟩:∃a,a=2*n+2*j:=⟨_,rfl⟩
 have T:tw a=2*(n+j)+1:=by unfold tw;rw [Nk (by omega)];omega
 have p:IntKind.i64.wrap (((BitVec.ofInt IntKind.i64.bits (a:Int) ^^^ BitVec.ofInt IntKind.i64.bits 1).toNat:Nat):Int)=((tw a:Nat):Int):=Nzr (n:=a) (by omega)
 rw [<-t] at R
 have xA:=QN (i:=tw a) (n:=2*l.length) N (by omega) RV
 have lA:∀Z,AM.loadCell (G'++Z) ((SX pa 2 (tw a)).add 1)=some (Vi (gt X j).flow):=fun Z=>by
  have:=(N.app Z).loadCell PO (i:=tw a) (by rw [RV];omega) (j:=1) (by decide)
  rw [this,VP (by omega),T,YY,hX,Nym]
  rfl
 have w1:IntKind.i64.wrap ((j:Int)+1)=((j+1:Nat):Int):=NS (by omega)
 have r:=Ncb (C:=C) (l:=X) f (by omega)
 obtain ⟨fl,ac⟩:∃fl,fl=(gt X j).flow:=⟨_,rfl⟩
 rw [<-ac] at lA r
 have D:lim<=G'.length:=by omega
 obtain ⟨G2,e2,O2,C2,K2,am,_⟩:=v.step (lim':=lim) (bytes:=32) (by omega) NU (by decide) (⟨(gt C j).1.id,(gt C j).2,(gt C j).2+(gt C j).1.mins,fl⟩:Flow.Ld) (by unfold PM;omega) (by omega) w [Vc (Vt (gt C j,a)),Vc (QI ⟨(gt C j).1.id,(gt C j).2,(gt C j).2+(gt C j).1.mins,fl⟩)] (G'.length+1) 1 (by rw [OL];rfl)
 simp only [Nj,Nl,N0,Na,Nat.reduceAdd] at e2 O2 K2
 have S:OW lim none 4 32 false (.slice q (RI (C.take j) X).length c) (.slice (Sa (G'.length+1)) 1 1) (G'++[Vc (Vt (gt C j,a)),Vc [Vi (gt C j).1.id,Vi (gt C j).2,Vi ((gt C j).2+(gt C j).1.mins),Vi fl]])=some (.slice (Sa (G'.length+2)) ((RI (C.take j) X).length+1) (loose 4),G2++[]):=by rw [Na];exact e2
 by_cases g1:0<fl
 ·rw [Nk g1] at r
  simp only [n21,f11,f32,g,k,f12,f,R,xW,M,p,xA,lA,w1,SK,Nl1,N16,N15,Nn2,NL,D,Nq g1,S,SB,seval,NJ,NF,place,NA]
  refine hN (j+1,Sa (G'.length+2),loose 4) _ _ ⟨by show j+1<=_;omega,f11,f32,g,rfl,by rw [r,Nb,Ow];exact rfl,by rw [r];exact O2.app _,C2 [] G (Ng _) d⟩ (by show C.length-(j+1)<C.length-j;omega)
 ·rw [Nf g1,Na] at r
  simp only [n21,f11,f32,g,k,f,R,xW,M,p,xA,lA,w1,SK,Nn2,NL,D,Nn g1,SB,seval,NJ,NF,place,NA]
  refine hN (j+1,q,c) _ _ ⟨by show j+1<=_;omega,f11,f32,g,rfl,by rw [r];exact f12,by rw [r];exact v.app _,d.app⟩ (by show C.length-(j+1)<C.length-j;omega)
end Go.Proofs.YtohnaffmcjbpoaaGreat.Fn


namespace Go.Flow
open Go.AM Go.Net
abbrev Cg:=Int×Int×Int
def WT (a b:Cg):Prop:=a.1<b.1\/a.1=b.1/\(a.2.1<b.2.1\/a.2.1=b.2.1/\b.2.2<a.2.2)
instance (a b:Cg):Decidable (WT a b):=by unfold WT;infer_instance
def QQ (p t:Int):List Cg->Int
 | []=>0
 | x::l=>(if x.1=p/\x.2.1<=t then x.2.2 else 0)+QQ p t l
def Va (p:Int):List Cg->Int
 | []=>0
 | x::l=>(if x.1=p then x.2.2 else 0)+Va p l
theorem Ug {p t:Int}:∀{a b:List Cg},QQ p t (a++b)=QQ p t a+QQ p t b
 | [],b=>by simp [QQ]
 | x::a,b=>by rw [Oc,QQ,QQ,Ug];omega
theorem Nhk {p:Int}:∀{a b:List Cg},Va p (a++b)=Va p a+Va p b
 | [],b=>by simp [Va]
 | x::a,b=>by rw [Oc,Va,Va,Nhk];omega
theorem MM {p t:Int} {a b:List Cg} (h:a.Perm b):QQ p t a=QQ p t b:=by
 induction h with
 | nil=>rfl
 | cons x h ih=>simp only [QQ,ih]
 | swap x y l=>simp only [QQ];omega
 | trans h1 h2 c d=>exact c.trans d
theorem Nen {p:Int}:∀{l:List Cg},(∀x∈l,x.1≠p)->Va p l=0
 | [],_=>rfl
 | x::l,h=>by
   rw [Va,Nf (h x Nm),Nen fun y a=>h y (Nh _ a)];rfl
theorem Ndg {p t:Int}:∀{l:List Cg},(∀x∈l,x.1=p->x.2.1<=t)->QQ p t l=Va p l
 | [],_=>rfl
 | x::l,h=>by
   rw [QQ,Va,Ndg fun y a=>h y (Nh _ a)]
   have:=h x Nm
   by_cases h1:x.1=p
   ·rw [Nk ⟨h1,this h1⟩,Nk h1]
   ·rw [Nf fun q=>h1 q.1,Nf h1]
theorem Nfk {p t:Int}:∀{l:List Cg},(∀x∈l,x.1=p->t<x.2.1)->QQ p t l=0
 | [],_=>rfl
 | x::l,h=>by
   rw [QQ,Nfk fun y a=>h y (Nh _ a)]
   have:=h x Nm
   rw [Nf fun q=>by have:=this q.1;omega];rfl
theorem Njp {p t:Int}:∀{l:List Cg},(∀x∈l,x.1=p->x.2.1<=t->x.2.2<=0)->QQ p t l<=0
 | [],_=>Oa _
 | x::l,h=>by
   rw [QQ]
   have ih:=Njp (p:=p) (t:=t) (l:=l) fun y a=>h y (Nh _ a)
   have:=h x Nm
   split
   ·rename_i hc;have:=this hc.1 hc.2;omega
   ·omega
theorem Nfl {p t u:Int}:∀{l:List Cg},(∀x∈l,x.1=p->x.2.1<=u\/0<=x.2.2)->QQ p u l<=Va p l
 | [],_=>Oa _
 | x::l,h=>by
   rw [QQ,Va]
   have ih:=Nfl (t:=t) (p:=p) (u:=u) (l:=l) fun y a=>h y (Nh _ a)
   have:=h x Nm
   by_cases h1:x.1=p
   ·rw [Nk h1]
    split
    ·omega
    ·rename_i hc;have:=this h1;omega
   ·rw [Nf fun q=>h1 q.1,Nf h1];omega
theorem Nsp {S:List Cg} (q:S.Pairwise fun x y=>¬WT y x):(∀i,i<S.length->0<=Va (gt S i).1 (S.take (i+1)))↔∀p t,0<=QQ p t S:=by
 have hp:=N5.1 q
 have d:∀i j,i<j->j<S.length->¬WT (gt S j) (gt S i):=fun i j m c=>by
  have:=hp i j (by omega) c m
  rw [OJ c,OJ (show i<S.length by omega)];exact this
 have mt:∀{k:Nat} {x:Cg},x∈S.take k->∃j,j<k/\j<S.length/\x=gt S j:=fun {k x} b=>by
  obtain ⟨j,c,rfl⟩:=List.mem_iff_getElem.1 b
  rw [N6] at c
  exact ⟨j,by omega,by omega,by rw [List.getElem_take,OJ]⟩
 have md:∀{k:Nat} {x:Cg},x∈S.drop k->∃j,k<=j/\j<S.length/\x=gt S j:=fun {k x} b=>by
  obtain ⟨j,c,rfl⟩:=List.mem_iff_getElem.1 b
  rw [Ps] at c
  exact ⟨k+j,by omega,by omega,by rw [Rj,OJ]⟩
 constructor
 ·intro h p t
  have key:∀k,k<=S.length->0<=QQ p t (S.take k):=fun k=>by
   induction k with
   | zero=>intro _;exact Oa _
   | succ k ih=>
     intro s
     have ih:=ih (by omega)
     by_cases hc:(gt S k).1=p/\(gt S k).2.1<=t
     ·rw [Ndg fun x b f=>?_]
      ·have:=h k (by omega)
       rw [hc.1] at this;exact this
      ·obtain ⟨j,c,a,rfl⟩:=mt b
       by_cases n:j=k
       ·rw [n];exact hc.2
       ·have:=d j k (by omega) (by omega)
        unfold WT at this
        omega
     ·rw [QH (by omega),Ug]
      show 0<=QQ p t (S.take k)+((if _ then _ else _)+0)
      rw [Nf hc];omega
  have:=key S.length (Ng _)
  rw [Of] at this;exact this
 ·intro h i hi
  have e:∀p t,QQ p t S=QQ p t (S.take (i+1))+QQ p t (S.drop (i+1)):=fun p t=>by rw [<-Ug,P8]
  by_cases o:0<=(gt S i).2.2
  ·have h1:=h (gt S i).1 ((gt S i).2.1-1)
   rw [e,Nfk (l:=S.drop (i+1)) fun x b f=>?_] at h1
   ·have:=Nfl (t:=0) (p:=(gt S i).1) (u:=(gt S i).2.1-1) (l:=S.take (i+1)) fun x b f=>?_
    ·omega
    ·obtain ⟨j,c,a,rfl⟩:=mt b
     by_cases g:j=i
     ·rw [g];exact .inr o
     ·have:=d j i (by omega) hi
      unfold WT at this
      omega
   ·obtain ⟨j,c,a,rfl⟩:=md b
    have:=d i j (by omega) a
    unfold WT at this
    omega
  ·have h1:=h (gt S i).1 (gt S i).2.1
   rw [e,Ndg (l:=S.take (i+1)) fun x b f=>?_] at h1
   ·have:=Njp (p:=(gt S i).1) (t:=(gt S i).2.1) (l:=S.drop (i+1)) fun x b f r=>?_
    ·omega
    ·obtain ⟨j,c,a,rfl⟩:=md b
     have:=d i j (by omega) a
     unfold WT at this
     omega
   ·obtain ⟨j,c,a,rfl⟩:=mt b
    by_cases g:j=i
    ·rw [g];exact Oa _
    ·have:=d j i (by omega) hi
     unfold WT at this
     omega
theorem Nor {S:List Cg} (g:S.Pairwise fun x y=>¬WT y x) {i:Nat} (hi:i<S.length):Va (gt S i).1 (S.take (i+1))=(if 0<i/\(gt S (i-1)).1≠(gt S i).1 then 0 else Va (gt S (i-1)).1 (S.take i))+(gt S i).2.2:=by
 rw [QH hi,Nhk]
 have e:Va (gt S i).1 [gt S i]=(gt S i).2.2:=by simp [Va]
 rw [e]
 congr 1
 have hp:=N5.1 g
 by_cases hc:0<i/\(gt S (i-1)).1≠(gt S i).1
 ·rw [Nk hc]
  refine Nen fun x k=>?_
  obtain ⟨j,f,rfl⟩:=List.mem_iff_getElem.1 k
  rw [N6] at f
  rw [List.getElem_take]
  intro e
  have h1:¬WT S[i] S[i-1]:=hp (i-1) i (by omega) hi (by omega)
  obtain ⟨d,a⟩:=hc
  rw [OJ (by omega),OJ hi] at a
  rw [OJ hi] at e
  by_cases b:j=i-1
  ·subst b;exact a e
  ·have h2:¬WT S[i-1] S[j]:=hp j (i-1) (by omega) (by omega) (by omega)
   unfold WT at h1 h2
   omega
 ·rw [Nf hc]
  by_cases c:i=0
  ·subst c;rfl
  ·have:(gt S (i-1)).1=(gt S i).1:=Ns fun h=>hc ⟨by omega,h⟩
   rw [this]
end Go.Flow


namespace Go.Proofs.YtohnaffmcjbpoaaGreat.Fn
open Go.AM Go.AM.Sym Go.Net Go.Flow Go.Sort
instance sortC [OB]:Srt.SortAt E zC:=⟨rfl,kn rfl rfl (by decide),kn rfl rfl (by decide),kn rfl rfl (by decide),kn rfl rfl (by decide),kn rfl rfl (by decide),kn rfl rfl (by decide),kn rfl rfl (by decide),kn rfl rfl (by decide),kn rfl rfl (by decide),kn rfl rfl (by decide),kn rfl rfl (by decide),kn rfl rfl (by decide),kn rfl rfl (by decide),kn rfl rfl (by decide),kn rfl rfl (by decide),kn rfl rfl (by decide),kn rfl rfl (by decide),kn rfl rfl (by decide)⟩
instance encC3:Srt.EncOk enc3 zC:=⟨fun _=>rfl⟩
def Nwn (a b:Cg):Int:=orL [UE a.1 b.1,UE a.2.1 b.2.1,UE b.2.2 a.2.2]
theorem Ny5 [OB] (mp:Bool) (lim:Nat) (a b:Cg) (H:NB) (Q:Value->NB->Prop):NR E mp lim 77 [.agg (enc3 a).toArray,.agg (enc3 b).toArray] H Q=Q (Vi (Nwn a b)) H:=by
 refine pc (by decide) e77 rfl rfl ?_
 rw [b77,c77]
 simp only [n77,r77,enc3,Nl5,Nkv,Wv,WB,Wh,Zc,XU,YZ,Nat.reducePow,SB,seval,NE,NJ,NH,place,NA,NG]
 rfl
theorem Nbf {a b:Cg}:Srt.ltC Nwn a b=decide (WT a b):=by
 unfold Srt.ltC
 have e0:Nwn a b=if UE a.1 b.1≠0 then UE a.1 b.1 else if UE a.2.1 b.2.1≠0 then UE a.2.1 b.2.1 else if UE b.2.2 a.2.2≠0 then UE b.2.2 a.2.2 else 0:=rfl
 have e:Nwn a b<0↔WT a b:=by
  rw [e0]
  unfold WT
  rcases Qh a.1 b.1 with h | h | h
  ·rw [Zo h];simp [h]
  ·rw [Zp h]
   rcases Qh a.2.1 b.2.1 with h2 | h2 | h2
   ·rw [Zo h2];simp [h,h2]
   ·rw [Zp h2]
    rcases Qh b.2.2 a.2.2 with h3 | h3 | h3
    ·rw [Zo h3];simp [h,h2,h3]
    ·rw [Zp h3];simp [h,h2,h3]
    ·rw [Zn h3];simp [h,h2];omega
   ·rw [Zn h2];simp [h];omega
  ·rw [Zn h];simp;omega
 rw [Rb,N3,N3]
 exact e
theorem Nwm:SWO (Srt.ltC Nwn):=by
 refine ⟨fun x=>?_,fun x y z h1 h2=>?_,fun x y z h1 h2=>?_⟩
 ·rw [Nbf];simp [WT]
 ·rw [Nbf,N3] at h1 h2⊢
  unfold WT at *;omega
 ·rw [Nbf,decide_eq_false_iff_not] at h1 h2⊢
  unfold WT at *;omega
theorem Nhl {p b:Int}:∀{l:List Cg},(∀x∈l,-b<=x.2.2/\x.2.2<=b)->0<=b->-(b*l.length)<=Va p l/\Va p l<=b*l.length
 | [],_,hb=>by simp [Va]
 | x::l,h,hb=>by
   have ih:=Nhl (p:=p) (l:=l) (fun y a=>h y (Nh _ a)) hb
   have:=h x Nm
   rw [Va,Nj]
   have e:b*((l.length+1:Nat):Int)=b*l.length+b:=by rw [Int.natCast_add,Int.mul_add];simp
   rw [e]
   split<;>omega
theorem Nq2 [OB] {lim lo c:Nat} {p:Option Addr} {ch:List Cg} {G:NB} {Q:Value->NB->Prop} (hO:Own lo G enc3 3 p c ch) (U:lim<=lo) (ac:lim<=G.length) (hn:ch.length<1000) (hb:∀x∈ch,-100000000000<=x.2.2/\x.2.2<=100000000000)
  (M:∀b G',(b=true↔∀p t,0<=QQ p t ch)->(∀x,x<G.length->x∉PZ p->NC G' x=NC G x)->Q (.bool b) G') :
  NR E false lim 46 [.slice p ch.length c] G Q:=by
 refine Te (by decide) e46 rfl ?_
 rw [b46,c46]
 simp only [n46,SB,seval,NE,NJ,reduceCtorEq,NH]
 refine Nhr (iz:=zC) Ny5 Nwm (hO.app _) U (by omega) fun G1 S O f V R T=>?_
 have r:S.Pairwise fun x y=>¬WT y x:=V.imp fun h=>by rw [Nbf,decide_eq_false_iff_not] at h;exact h
 have I:=f.length_eq
 have P:∀x∈S,-100000000000<=x.2.2/\x.2.2<=100000000000:=fun x W=>hb x (f.mem_iff.1 W)
 simp only [Nb,Nl,Oj] at T
 have D:(∀p t,0<=QQ p t S)↔∀p t,0<=QQ p t ch:=⟨fun h p t=>by rw [<-MM f];exact h p t,fun h p t=>by rw [MM f];exact h p t⟩
 have J:=(Nsp r).trans D
 have q:∀u,NZ G1 u->∀x,x<G.length->x∉PZ p->NC u x=NC G x:=fun u m x h1 h2=>by
  obtain ⟨Y,rfl⟩:=m
  rw [NK (by omega),R x (by simp;omega) h2,Na]
 refine NI ?_
 rw [<-I]
 simp only [n46,SB,seval,NJ,reduceCtorEq,NH]
 refine NM (fun j=>S.length-j) (fun j fr G'=>j<=S.length/\fr 0=.slice p S.length c/\fr 8=.slice p S.length c/\fr 9=Vi S.length/\fr 10=Vi j/\fr 3=Vi (Va (gt S (j-1)).1 (S.take j))/\(∀i,i<j->0<=Va (gt S i).1 (S.take (i+1)))/\NZ G1 G') 0 ⟨Nv _,rfl,rfl,rfl,by rfl,by rfl,fun i hi=>by omega,NZ.refl.app⟩ ?_
 intro j fr G' ⟨hj,v,f8,f9,f10,f3,n,m⟩ N
 rw [NQ N0g.eq_1]
 refine NI ?_
 by_cases d:j<S.length
 case neg=>
  obtain rfl:j=S.length:=by omega
  simp only [n46,r46,f9,f10,d,SB,seval,NJ,NF,NG]
  exact M true _ ⟨fun _=>J.1 n,fun _=>rfl⟩ (q _ m.app)
 have B:Sl G' enc3 3 p S:=m.sl (O.sl Vk)
 have A:=fun Z=>(B.app Z).loadCells Vk d
 have C:=QN B d rfl
 have o:=Nor r d
 have aa:G1.length<=G'.length:=by obtain ⟨Y,rfl⟩:=m;simp
 have e:lim<=G'.length:=by omega
 have X:IntKind.i64.wrap ((j:Int)+1)=((j+1:Nat):Int):=NS (by omega)
 have F:=Nhl (p:=(gt S j).1) (b:=100000000000) (l:=S.take (j+1)) (fun x W=>P x (Pz W)) (by omega)
 rw [N6] at F
 obtain ⟨s,k⟩:∃s,s=Va (gt S j).1 (S.take (j+1)):=⟨_,rfl⟩
 rw [<-k] at o F
 have w:s<0->¬∀p t,0<=QQ p t ch:=fun h hh=>by
  have:=J.2 hh j d
  rw [<-k] at this;omega
 by_cases hc:0<j/\(gt S (j-1)).1≠(gt S j).1
 ·rw [Nk hc,Qp] at o
  have K:IntKind.i64.wrap ((j:Int)-1)=((j-1:Nat):Int):=by rw [NY (by omega) (by omega)];omega
  have l1:∀Z,AM.loadCell (G'++Z) ((SX p 3 (j-1)).add 0)=some (Vi (gt S (j-1)).1):=fun Z=>(B.app Z).loadCell Vk (i:=j-1) (by omega) (j:=0) (by decide)
  have L:=QN (i:=j-1) B (by omega) rfl
  have z:IntKind.i64.wrap (0+(gt S j).2.2)=s:=by rw [Qp,o];exact NY (by omega) (by omega)
  have g:0<(j:Int):=by omega
  by_cases a:s<0
  ·simp only [n46,r46,v,f8,f9,f10,d,A,C,enc3,e,K,l1,L,Nq g,Nn hc.2,z,Nq a,SB,seval,NJ,NF,reduceCtorEq,place,NA,NG]
   exact M false _ ⟨fun h=>(by cases h),fun h=>absurd h (w a)⟩ (q _ m.app)
  ·simp only [n46,v,f8,f9,f10,d,A,C,X,enc3,e,K,l1,L,Nq g,Nn hc.2,z,Nn a,SB,seval,NJ,NF,reduceCtorEq,place,NA]
   exact N (j+1) _ _ ⟨by omega,v,f8,f9,rfl,by rw [show j+1-1=j by omega,<-k];exact rfl,fun i hi=>by
    rcases (by omega:i<j\/i=j) with h | rfl
    ·exact n i h
    ·rw [<-k];omega,m.app⟩ (by omega)
 ·rw [Nf hc] at o
  have z:IntKind.i64.wrap (Va (gt S (j-1)).1 (S.take j)+(gt S j).2.2)=s:=by rw [<-o];exact NY (by omega) (by omega)
  by_cases h0:j=0
  ·have g:¬0<(j:Int):=by omega
   by_cases a:s<0
   ·simp only [n46,r46,f8,f9,f10,f3,d,A,C,enc3,e,Nn g,z,Nq a,SB,seval,NJ,NF,place,NA,NG]
    exact M false _ ⟨fun h=>(by cases h),fun h=>absurd h (w a)⟩ (q _ m.app)
   ·simp only [n46,f8,f9,f10,f3,d,A,C,X,enc3,e,Nn g,z,Nn a,SB,seval,NJ,NF,place,NA]
    exact N (j+1) _ _ ⟨by omega,v,f8,f9,rfl,by rw [show j+1-1=j by omega,<-k];exact rfl,fun i hi=>by
     obtain rfl:i=j:=by omega
     rw [<-k];omega,m.app⟩ (by omega)
  ·have g:0<(j:Int):=by omega
   have H:(gt S (j-1)).1=(gt S j).1:=Ns fun h=>hc ⟨by omega,h⟩
   have K:IntKind.i64.wrap ((j:Int)-1)=((j-1:Nat):Int):=by rw [NY (by omega) (by omega)];omega
   have l1:∀Z,AM.loadCell (G'++Z) ((SX p 3 (j-1)).add 0)=some (Vi (gt S (j-1)).1):=fun Z=>(B.app Z).loadCell Vk (i:=j-1) (by omega) (j:=0) (by decide)
   have L:=QN (i:=j-1) B (by omega) rfl
   by_cases a:s<0
   ·simp only [n46,r46,v,f8,f9,f10,f3,d,A,C,enc3,e,K,l1,L,Nq g,Nq H,z,Nq a,SB,seval,NJ,NF,reduceCtorEq,place,NA,NG]
    exact M false _ ⟨fun h=>(by cases h),fun h=>absurd h (w a)⟩ (q _ m.app)
   ·simp only [n46,v,f8,f9,f10,f3,d,A,C,X,enc3,e,K,l1,L,Nq g,Nq H,z,Nn a,SB,seval,NJ,NF,reduceCtorEq,place,NA]
    exact N (j+1) _ _ ⟨by omega,v,f8,f9,rfl,by rw [show j+1-1=j by omega,<-k];exact rfl,fun i hi=>by
     rcases (by omega:i<j\/i=j) with h | rfl
     ·exact n i h
     ·rw [<-k];omega,m.app⟩ (by omega)
end Go.Proofs.YtohnaffmcjbpoaaGreat.Fn


namespace Go.Flow
open Go.AM Go.Net
def SH (c:Leg×Int):Int×Int×Int:=(c.1.id,c.2,c.2+c.1.mins)
def Vo (C:List (Leg×Int)) (k:Int×Int×Int):Option Leg:=(C.find? fun c=>decide (SH c=k)).map (·.1)
theorem TS {C:List (Leg×Int)} {k:Int×Int×Int} {l:Leg} (h:Vo C k=some l):∃c∈C,SH c=k/\c.1=l:=by
 unfold Vo at h
 simp only [Nd] at h
 obtain ⟨c,h1,h2⟩:=h
 exact ⟨c,Ri h1,by simpa using R7 h1,h2⟩
theorem Nqf {C:List (Leg×Int)} {k:Int×Int×Int} (h:Vo C k=none):∀c∈C,SH c≠k:=fun c hc e=>by
 unfold Vo at h
 rw [Option.map_eq_none_iff,List.find?_eq_none] at h
 exact h c hc (by simpa using e)
theorem Nqe {C:List (Leg×Int)} {x:Leg×Int} {k:Int×Int×Int} (b:∀c∈C,SH c=SH x->c.1=x.1):Vo (C++[x]) k=if k=SH x then some x.1 else Vo C k:=by
 have e:Vo (C++[x]) k=match Vo C k with | some l=>some l | none=>if SH x=k then some x.1 else none:=by
  unfold Vo
  rw [List.find?_append]
  cases hc:C.find? fun c=>decide (SH c=k) with
  | some c=>rfl
  | none=>
    simp only [Option.none_or,List.find?_cons,List.find?_nil,Ov]
    by_cases h:SH x=k
    ·simp [h]
    ·simp [h]
 rw [e]
 by_cases h:k=SH x
 ·subst h
  rw [Nk rfl]
  cases hl:Vo C (SH x) with
  | none=>simp
  | some l=>
    obtain ⟨c,h1,h2,a⟩:=TS hl
    simp only
    rw [<-a,b c h1 h2];simp
 ·rw [Nf h]
  cases hl:Vo C k with
  | none=>simp only;rw [Nf fun q=>h q.symm]
  | some l=>rfl
end Go.Flow
namespace Go.Proofs.YtohnaffmcjbpoaaGreat.Fn
open Go.AM Go.AM.Sym Go.Net Go.Flow
def kD (k:Int×Int×Int):Value:=.agg #[Vi k.1,Vi k.2.1,Vi k.2.2,Vi 0]
def vL (l:Leg):Value:=.agg (QO l).toArray
theorem N0s:Nog kD:=fun a b=>by
 obtain ⟨c,d,e⟩:=a
 obtain ⟨b1,f,g⟩:=b
 simp only [kD,VI,UN,if_true,Nz,Bool.and_true,Prod.mk.injEq,Bool.decide_and]
 simp only [beq_self_eq_true,Bool.and_true]
 rfl
theorem N0r {k:Int×Int×Int}:TW (.ints [.i64,.i64,.i64,.i64]) (kD k)=true:=by simp [kD,TW,Tg]
theorem Y4 {P:List Int} {L:List Leg} {to dl:Int} (h:QB P L=0):∀c∈NP L to dl,∀d∈NP L to dl,SH c=SH d->c.1=d.1:=fun c hc d hd e=>by
 unfold SH at e
 exact ZK h (QT hc).1 (QT hd).1 (Prod.mk.inj e).1
theorem Nya [OB] {lim M B12 Bd2 Bn2 Bt2 np cpn cl:Nat} {Kk:List Nat} {G:NB} {fr:Nat->Value} {pp2 pl:Option Addr} {P:List Int} {to dl:Int} {L:List Leg} {K:List AItem} {Q:Value->NB->Prop}
  (hv:QB P L=0) (hM:NC G M=.map []) (p:NC G B12=Vc [.map (some M)]) (W:lim<=M) (f12:fr 12=Vp B12)
  (ad:fr 33=.func (.func 74) #[] #[Vp Bd2,Vp Bn2,Vp Bt2])
  (ag:NC G Bd2=Vc [Vi dl]) (ah:NC G Bn2=Vc (QJ pp2 np cpn pl L.length cl)) (ai:NC G Bt2=Vc [Vi to]) (hs:Sl G QO 8 pl L) (hK:Bd2∈Kk/\Bn2∈Kk/\Bt2∈Kk/\∀a,pl=some a->L≠[]->a.block∈Kk) (u:∀b∈Kk,b<G.length/\b≠M) (hF:∀l∈L,Fine l) (aj:L.length<2 ^ 40) (an:0<=dl) (ao:dl<=OP)
  (hR:∀G' es,(∀k,TK k es=Vo (NP L to dl) k)->NC G' M=.map (Sz kD vL es)->(∀b,b<G.length->b≠M->NC G' b=NC G b)->NC G' G.length=.dfr->G.length+2<=G'.length->PI E a22 lim (K++[.mark G.length]) fr G' Q) :
  PI E a22 lim (.code (.rangeF (t 33) [34,35] Vr Vq)::K) fr G Q:=by
 have ak:=UM hM
 have a0:lim<=G.length:=by omega
 have N:=ND p
 have J:B12≠M:=fun e=>by rw [e,hM] at p;cases p
 have mt:OP=1051898399:=rfl
 have S:NE (ev fr (t 33)) [.func (.yield (G.length+1)) #[] #[]] = some (.inl 74,[.func (.yield (G.length+1)) #[] #[],Vp Bd2,Vp Bn2,Vp Bt2]):=by rw [show ev fr (t 33)=_ from ad];rfl
 rw [Wl S]
 have o:∀b∈Kk,NC (G++[Blk.dfr,.loop ⟨0,none,fr,157,[34,35],Vr,Vq⟩]) b=NC G b:=fun b f=>NK (u b f).1
 refine Xp (lim:=lim) (Y:=G.length+1) (Bd:=Bd2) (Bn:=Bn2) (Bt:=Bt2) (np:=np) (pp:=pp2) (pl:=pl) (cp:=cpn) (cl:=cl) (L:=L) (to:=to) (dl:=dl)
  (fun rest I G'=>∃done es,done++rest=NP L to dl/\(∀k,TK k es=Vo done k)/\NC G' M=.map (Sz kD vL es)/\NC G' G.length=.dfr/\NC G' (G.length+1)=.loop ⟨0,none,fr,157,[34,35],Vr,Vq⟩/\(∀b,b<G.length->b≠M->NC G' b=NC G b)/\(∀b∈I,b<G'.length/\b≠M/\b≠G.length+1)/\G.length+2<=G'.length) Kk ?_ ?_ ((o _ hK.1).trans ag) ((o _ hK.2.1).trans ah) ((o _ hK.2.2.1).trans ai) (hs.app _) hK ?_ hF aj an ao (by simp;omega) ?_ ?_
 ·rintro rest I aq H H' ⟨done,es,e1,e2,e3,e4,C,D,e7,e8⟩ O am
  have aa:=O.len
  refine ⟨done,es,e1,e2,O.get e3 (UM e3) (by simp),O.get e4 (by omega) (by simp),O.get C (by omega) (by simp),fun b f h=>by rw [O.other b (by omega) (by simp)];exact D b f h,fun b f=>?_,by omega⟩
  rcases am b f with h1 | ⟨h1,h2⟩
  ·have:=e7 b h1
   exact ⟨by omega,this.2⟩
  ·exact ⟨h2,by omega,by omega⟩
 ·rintro x rest I G' ap hx au ⟨done,es,e1,e2,e3,e4,C,D,e7,e8⟩
  obtain ⟨a1,_,d,_,a2,a3,a5⟩:=QT hx
  rw [MP (x:=⟨0,none,fr,157,[34,35],Vr,Vq⟩) C (by omega) rfl rfl]
  rw [show Td fr [34,35] [.agg (QO x.1).toArray,.agg #[Vi x.2,Vi (x.2+x.1.mins)]] = upd (upd fr 34 (.agg (QO x.1).toArray)) 35 (.agg #[Vi x.2,Vi (x.2+x.1.mins)]) from rfl]
  rw [NQ Vr.eq_1]
  refine NI ?_
  obtain ⟨G1,e9,h9,F⟩:=OO (G:=G') (R:=G.length+1) (by omega) (.loop ⟨1,none,fr,157,[34,35],Vr,Vq⟩)
  have gY:=fun X=>(NZ.refl.app (X:=X)).get' C (by omega)
  have V:lim<=G'.length:=by omega
  simp only [NV,NL,V,gY,e9,show lim<=G.length+1 by omega,SB,seval,NJ,place,NA]
  rw [NQ Vq.eq_1]
  have az:=F.len
  have ac:∀Z,NC (G1++Z) B12=Vc [.map (some M)]:=fun Z=>by rw [NK (by omega),F.other _ (by omega),D B12 N J];exact p
  have kM:∀Z,NC (G1++Z) M=.map (Sz kD vL es):=fun Z=>by rw [NK (by omega),F.other _ (by omega)];exact e3
  have c5:∀X:NB,NC (G1++X) G'.length=X.getD 0 .dead:=(VC F.len).2.2.1
  have c6:∀(X:NB) (j:Nat),NC (G1++X) (G'.length+j)=X.getD j .dead:=(VC F.len).2.1
  have i:findKey (.agg #[Vi x.1.id,Vi x.2,Vi (x.2+x.1.mins),Vi 0]) (Sz kD vL es) 0=some ((fk (SH x) es 0).map fun y=>(y.1,vL y.2)):=TM (vv:=vL) N0s (SH x) es 0
  have U:TW (.ints [.i64,.i64,.i64,.i64]) (.agg #[Vi x.1.id,Vi x.2,Vi (x.2+x.1.mins),Vi 0])=true:=N0r (k:=SH x)
  have w:∀k,TK k (XE (SH x) x.1 es)=Vo (done++[x]) k:=fun k=>by
   rw [Ya,Nqe fun c hc e=>Y4 hv c (by rw [<-e1];exact Ny _ hc) x hx e,e2]
  have fin:∀(m:NB),Mut G1 m M->NC m M=.map (Sz kD vL (XE (SH x) x.1 es))->∃g,(∀Z:NB,(m++Z).set (G.length+1) (.loop ⟨0,none,fr,157,[34,35],Vr,Vq⟩)=g++Z)/\(∀Z,NC (m++Z) (G.length+1)=.loop ⟨1,none,fr,157,[34,35],Vr,Vq⟩)/\∀Z,(∃done es,done++rest=NP L to dl/\(∀k,TK k es=Vo done k)/\NC (g++Z) M=.map (Sz kD vL es)/\NC (g++Z) G.length=.dfr/\NC (g++Z) (G.length+1)=.loop ⟨0,none,fr,157,[34,35],Vr,Vq⟩/\(∀b,b<G.length->b≠M->NC (g++Z) b=NC G b)/\(∀b∈I,b<(g++Z).length/\b≠M/\b≠G.length+1)/\G.length+2<=(g++Z).length)/\G'.length<=(g++Z).length/\∀j∈I,NC (g++Z) j=NC G' j:=fun m m2 h2=>by
   have aw:=m2.len
   have y2:NC m (G.length+1)=.loop ⟨1,none,fr,157,[34,35],Vr,Vq⟩:=(m2.other _ (by omega)).trans h9
   obtain ⟨g,e11,ae,A⟩:=OO (G:=m) (R:=G.length+1) (by omega) (.loop ⟨0,none,fr,157,[34,35],Vr,Vq⟩)
   have ay:=A.len
   have kk:∀b,b<G'.length->b≠M->b≠G.length+1->∀Z,NC (g++Z) b=NC G' b:=fun b f q1 q2 Z=>by
    rw [NK (by omega),A.other b q2,m2.other b q1,F.other b q2]
   refine ⟨g,e11,fun Z=>(NZ.refl.app (X:=Z)).get' y2 (by omega),fun Z=>⟨⟨done++[x],XE (SH x) x.1 es,by rw [Nr];exact e1,w, ?_,(kk _ (by omega) (by omega) (by omega) Z).trans e4, ?_,fun b f h=>(kk b (by omega) h (by omega) Z).trans (D b f h),fun b f=>?_,by simp;omega⟩,by simp;omega,fun j T=>?_⟩⟩
   ·rw [NK (by omega),A.other M (by omega)];exact h2
   ·rw [NK (by omega)];exact ae
   ·have:=e7 b f
    exact ⟨by simp;omega,this.2⟩
   ·have:=e7 j T
    exact kk j this.1 this.2.1 this.2.2 Z
  cases hc:fk (SH x) es 0 with
  | none=>
    rw [hc] at i
    simp only [Ov] at i
    obtain ⟨m,e22,s,z⟩:=OO (G:=G1) (R:=M) (by omega) (.map (Sz kD vL es++[(.agg #[Vi x.1.id,Vi x.2,Vi (x.2+x.1.mins),Vi 0],.agg (QO x.1).toArray)]))
    obtain ⟨g,e11,y2,n⟩:=fin m z (by
     rw [s,<-Ngv (v':=x.1) hc]
     unfold Sz
     rw [Pe];rfl)
    simp only [f12,NV,SV,OH,ac,kM,c5,c6,i,U,W,e22,y2,e11,show lim<=G.length+1 by omega,SB,seval,NJ]
    obtain ⟨⟨d1,r,p1,p2,p3,p4,p5,p6,p7,p8⟩,p9,B⟩:=n [Vc (QO x.1),Vc [Vi x.2,Vi (x.2+x.1.mins)]]
    refine ⟨⟨d1,r,p1,p2,p3,p4,p5,p6,fun b f=>?_, ?_⟩, ?_,B⟩
    ·have:=p7 b f
     simp only [Nb,Nj,Nl] at this⊢
     exact ⟨by omega,this.2⟩
    ·simp only [Nb,Nj,Nl] at p8⊢;omega
    ·simp only [Nb,Nj,Nl] at p9⊢;omega
  | some yy=>
    obtain ⟨j,v⟩:=yy
    rw [hc] at i
    simp only [Nz] at i
    obtain ⟨m,e22,s,z⟩:=OO (G:=G1) (R:=M) (by omega) (.map ((Sz kD vL es).set j (.agg #[Vi x.1.id,Vi x.2,Vi (x.2+x.1.mins),Vi 0],.agg (QO x.1).toArray)))
    obtain ⟨g,e11,y2,n⟩:=fin m z (by
     have:=(Ngu (v':=x.1) hc).2.2
     rw [Nat.sub_zero] at this
     rw [s,<-this]
     unfold Sz
     rw [List.map_set];rfl)
    simp only [f12,NV,SV,OH,ac,kM,c5,c6,i,U,W,e22,y2,e11,show lim<=G.length+1 by omega,SB,seval,NJ]
    obtain ⟨⟨d1,r,p1,p2,p3,p4,p5,p6,p7,p8⟩,p9,B⟩:=n [Vc (QO x.1),Vc [Vi x.2,Vi (x.2+x.1.mins)]]
    refine ⟨⟨d1,r,p1,p2,p3,p4,p5,p6,fun b f=>?_, ?_⟩, ?_,B⟩
    ·have:=p7 b f
     simp only [Nb,Nj,Nl] at this⊢
     exact ⟨by omega,this.2⟩
    ·simp only [Nb,Nj,Nl] at p8⊢;omega
    ·simp only [Nb,Nj,Nl] at p9⊢;omega
 ·intro j T;have:=(u j T).1;simp;omega
 ·refine ⟨[],[],rfl,fun k=>rfl,by rw [NK ak];exact hM,NN,OL,fun b f _=>NK f,fun b f=>?_,by simp⟩
  have:=u b f
  exact ⟨by simp;omega,this.2,by omega⟩
 ·rintro G' ⟨done,es,e1,e2,e3,e4,C,D,e7,e8⟩ av aa
  rw [Na] at e1
  subst e1
  rw [Zi C,Ngx]
  show PI E a22 lim (K++[.mark G.length]) fr _ _
  have q:Mut G' (G'.set (G.length+1) .dead) (G.length+1):=⟨by simp,fun j T=>OQ T⟩
  exact hR _ es e2 ((q.other M (by omega)).trans e3) (fun b f h=>by rw [q.other b (by omega)];exact D b f h) ((q.other _ (by omega)).trans e4) (by rw [q.len];omega)
end Go.Proofs.YtohnaffmcjbpoaaGreat.Fn


namespace Go.Flow
open Go.AM Go.Net
def RA (s:List Src):List Cg:=s.map fun x=>(x.pl,x.rd,x.gr)
def Tt (to dl:Int):List Src->Int
 | []=>0
 | x::s=>(if x.pl=to/\x.rd<=dl then x.gr else 0)+Tt to dl s
def UD (x:Ld):Int×Int×Int:=(x.leg,x.dep,x.arr)
def Uc (C:List (Leg×Int)) (x:Ld):Leg:=(Vo C (UD x)).getD default
def Xg (C:List (Leg×Int)) (x:Ld):List Cg:=[((Uc C x).frm,x.dep-(Uc C x).cut,-x.gr),((Uc C x).dst,x.arr,x.gr)]
def SE (C:List (Leg×Int)) (to:Int):List Ld->Int
 | []=>0
 | x::l=>(if (Uc C x).dst=to then x.gr else 0)+SE C to l
def okX (C:List (Leg×Int)) (ld:List Ld) (i:Nat):Prop:=(∃a,Vo C (UD (gt ld i))=some a/\1<=(gt ld i).gr/\(gt ld i).gr<=a.grams)/\(0<i->RH (gt ld (i-1)) (gt ld i))
def VR (C:List (Leg×Int)) (s:List Src) (ld:List Ld):List Cg:=RA s++ld.flatMap (Xg C)
def X5 (C:List (Leg×Int)) (s:List Src) (ld:List Ld):Prop:=(∀i,i<ld.length->okX C ld i)/\∀p t,0<=QQ p t (VR C s ld)
theorem Njt {to dl:Int}:∀{a b:List Src},Tt to dl (a++b)=Tt to dl a+Tt to dl b
 | [],b=>by simp [Tt]
 | x::a,b=>by rw [Oc,Tt,Tt,Njt];omega
theorem Ndh {C:List (Leg×Int)} {to:Int}:∀{a b:List Ld},SE C to (a++b)=SE C to a+SE C to b
 | [],b=>by simp [SE]
 | x::a,b=>by rw [Oc,SE,SE,Ndh];omega
theorem Ng8 {to dl:Int}:∀{s:List Src},(∀x∈s,0<=x.gr/\x.gr<=1000000000)->0<=Tt to dl s/\Tt to dl s<=1000000000*s.length
 | [],_=>by simp [Tt]
 | x::s,h=>by
   have ih:=Ng8 (to:=to) (dl:=dl) (s:=s) fun y a=>h y (Nh _ a)
   have:=h x Nm
   rw [Tt,Nj]
   split<;>omega
theorem Nob {C:List (Leg×Int)} {to:Int}:∀{l:List Ld},(∀x∈l,0<=x.gr/\x.gr<=1000000000)->0<=SE C to l/\SE C to l<=1000000000*l.length
 | [],_=>by simp [SE]
 | x::s,h=>by
   have ih:=Nob (C:=C) (to:=to) (l:=s) fun y a=>h y (Nh _ a)
   have:=h x Nm
   rw [SE,Nj]
   split<;>omega
end Go.Flow
namespace Go.Proofs.YtohnaffmcjbpoaaGreat.Fn
open Go.AM Go.AM.Sym Go.Net Go.Flow
structure CF (fr:Nat->Value) (p4:Option Addr) (n4 c4:Nat) (to dl:Int) (B12:Nat):Prop where
 f2:fr 2=Vi to
 f3:fr 3=Vi dl
 f4:fr 4=.slice p4 n4 c4
 f12:fr 12=Vp B12
theorem Ny7 [OB] {p4 ps:Option Addr} {n4 c4 cs B12:Nat} {to dl:Int} {s:List Flow.Src} {lim:Nat} {G:NB} {fr:Nat->Value} {K:List AItem} {Q:Value->NB->Prop}
  (W:CF fr p4 n4 c4 to dl B12) (hs:Sl G encS 3 ps s) (hn:s.length<=60) (R:∀x∈s,0<=x.gr/\x.gr<=1000000000) (J:lim<=G.length)
  (C:fr 45=.slice ps s.length cs) (D:fr 46=Vi s.length) (F:fr 47=Vi 0) (f15:fr 15=Vi 0) (f16:fr 16=Vz)
  (U:∀fr' G' p c,CF fr' p4 n4 c4 to dl B12->Own G.length G' enc3 3 p c (RA s)->Chg [] G G'->fr' 15=Vi (Tt to dl s)->fr' 16=.slice p s.length c->PI E a22 lim K fr' G' Q) :
  PI E a22 lim (.code (.loop Nu3)::.inBlock 2::K) fr G Q:=by
 have L:∀j,(RA (s.take j)).length=min j s.length:=fun j=>by unfold RA;simp
 refine NM (fun z:Nat×Option Addr×Nat=>s.length-z.1) (fun z b G'=>z.1<=s.length/\CF b p4 n4 c4 to dl B12/\b 45=.slice ps s.length cs/\b 46=Vi s.length/\b 47=Vi z.1/\b 15=Vi (Tt to dl (s.take z.1))/\b 16=.slice z.2.1 z.1 z.2.2/\Own G.length G' enc3 3 z.2.1 z.2.2 (RA (s.take z.1))/\Chg [] G G') (0,none,0)
  ⟨Nv _,W,C,D,F,f15,f16,.nil,Chg.refl⟩ ?_
 rintro ⟨j,p,c⟩ b G' ⟨S,⟨q2,q3,y,l⟩,f,d,i,e,g,w,r⟩ H
 simp only at S i e g w
 rw [NQ Nu3.eq_1]
 refine NI ?_
 by_cases a:j<s.length
 case neg=>
  obtain rfl:j=s.length:=by omega
  rw [Of] at e w
  simp only [n22,d,i,a,SB,seval,NJ,NF]
  exact U _ _ p c ⟨q2,q3,y,l⟩ (w.app _) r.app e g
 have T:=r.sl hs (fun _ _ _=>by simp)
 have M:=fun Z=>(T.app Z).loadCells OI a
 have O:=QN T a rfl
 have t:=r.len
 have k:=L j
 rw [Pa S] at k
 have B:RA (s.take (j+1))=RA (s.take j)++[((gt s j).pl,(gt s j).rd,(gt s j).gr)]:=by unfold RA;rw [QH a,Pe];rfl
 have q:Tt to dl (s.take (j+1))=Tt to dl (s.take j)+(if (gt s j).pl=to/\(gt s j).rd<=dl then (gt s j).gr else 0):=by
  rw [QH a,Njt]
  show _+(_+0)=_
  omega
 have V:=Ng8 (to:=to) (dl:=dl) (s:=s.take j) fun x hx=>R x (Pz hx)
 rw [N6] at V
 have X:=R _ (PK a)
 obtain ⟨P,e2,u,A,K2,Y,I⟩:=w.step (lim':=lim) (bytes:=24) J Vk (by decide) ((gt s j).pl,(gt s j).rd,(gt s j).gr) (by rw [k];unfold PM;omega) (by rw [k];omega) t [Vc (encS (gt s j)),Vc (enc3 ((gt s j).pl,(gt s j).rd,(gt s j).gr))] (G'.length+1) 1 (by rw [OL];rfl)
 rw [k] at e2
 simp only [Nj,Nl,N0,Nat.reduceAdd] at e2 u
 have m:OW lim none 3 24 false (.slice p j c) (.slice (Sa (G'.length+1)) 1 1) (G'++[Vc (encS (gt s j)),Vc [Vi (gt s j).pl,Vi (gt s j).rd,Vi (gt s j).gr]])=some (.slice (Sa (G'.length+2)) (j+1) (loose 3),P++[]):=e2
 have o:∀Z,NC (P++Z) G'.length=Vc (encS (gt s j)):=fun Z=>by
  have:=I 0 (by simp)
  rw [Oj,Na] at this
  exact (NZ.refl.app).cells (this.trans rfl)
 have N:IntKind.i64.wrap ((j:Int)+1)=((j+1:Nat):Int):=NS (by omega)
 have wa:IntKind.i64.wrap (Tt to dl (s.take j)+(gt s j).gr)=Tt to dl (s.take j)+(gt s j).gr:=NY (by omega) (by omega)
 have n:lim<=G'.length:=by omega
 by_cases g1:(gt s j).pl=to
 ·by_cases v:(gt s j).rd<=dl
  ·rw [Nk ⟨g1,v⟩] at q
   simp only [n22,q2,q3,f,d,i,e,g,a,M,O,OI,SS,Tn,Vu,NL,m,o,N,wa,n,Nq g1,Nq v,SB,seval,NJ,NF,place,NA]
   exact H (j+1,Sa (G'.length+2),loose 3) _ _ ⟨by show j+1<=_;omega,⟨q2,q3,y,l⟩,f,d,rfl,by rw [q];exact rfl,rfl,by rw [B];exact u,A [] G (Ng _) r⟩ (by show s.length-(j+1)<s.length-j;omega)
  ·rw [Nf fun h=>v h.2,Ox] at q
   simp only [n22,q2,q3,f,d,i,g,a,M,O,OI,SS,Tn,Vu,NL,m,o,N,n,Nq g1,Nn v,SB,seval,NJ,NF,place,NA]
   exact H (j+1,Sa (G'.length+2),loose 3) _ _ ⟨by show j+1<=_;omega,⟨q2,q3,y,l⟩,f,d,rfl,by rw [q];exact e,rfl,by rw [B];exact u,A [] G (Ng _) r⟩ (by show s.length-(j+1)<s.length-j;omega)
 ·rw [Nf fun h=>g1 h.1,Ox] at q
  simp only [n22,q2,f,d,i,g,a,M,O,OI,SS,Tn,Vu,NL,m,o,N,n,Nn g1,SB,seval,NJ,NF,place,NA]
  exact H (j+1,Sa (G'.length+2),loose 3) _ _ ⟨by show j+1<=_;omega,⟨q2,q3,y,l⟩,f,d,rfl,by rw [q];exact e,rfl,by rw [B];exact u,A [] G (Ng _) r⟩ (by show s.length-(j+1)<s.length-j;omega)
theorem Ny8 [OB] {p4:Option Addr} {c4 M B12 c0:Nat} {p0:Option Addr} {to dl:Int} {s:List Flow.Src} {ld:List Flow.Ld} {C:List (Leg×Int)} {es:List ((Int×Int×Int)×Leg)} {lim:Nat} {G Gs:NB} {fr:Nat->Value} {K:List AItem} {Q:Value->NB->Prop}
  (hf:CF fr p4 ld.length c4 to dl B12) (hs:Sl G QI 4 p4 ld) (hn:ld.length<=200) (a8:s.length<=60) (a5:∀x∈s,0<=x.gr/\x.gr<=1000000000) (hC:∀c∈C,Fine c.1/\0<=c.2/\c.2+c.1.mins<=OP) (a3:lim<=G.length)
  (ap:NC G B12=Vc [.map (some M)]) (hM:NC G M=.map (Sz kD vL es)) (a0:∀k,TK k es=Vo C k) (aq:Chg [] G Gs) (hO:Own G.length Gs enc3 3 p0 c0 (RA s))
  (am:fr 76=.slice p4 ld.length c4) (an:fr 77=Vi ld.length) (ao:fr 78=Vi 0) (f15:fr 15=Vi (Tt to dl s)) (f16:fr 16=.slice p0 s.length c0)
  (ag:∀fr' G',fr' 10=Vi 0->fr' 11=.bool false->Chg [] G G'->(∃i,i<ld.length/\¬okX C ld i)->PI E a22 lim (.code .retM::K) fr' G' Q)
  (hK:∀fr' G' p c,CF fr' p4 ld.length c4 to dl B12->Own G.length G' enc3 3 p c (VR C s ld)->Chg [] G G'->(∀i,i<ld.length->okX C ld i)->fr' 15=Vi (Tt to dl s+SE C to ld)->fr' 16=.slice p (VR C s ld).length c->PI E a22 lim K fr' G' Q) :
  PI E a22 lim (.code (.loop Nu4)::.inBlock 4::K) fr Gs Q:=by
 have L:=fun fr' G' h1 h2 h3 h4=>cast (Nj0 (E:=E) (af:=a22) (lim:=lim) (K:=K)) (ag fr' G' h1 h2 h3 h4)
 have a2:∀l:List Flow.Ld,(l.flatMap (Xg C)).length=2*l.length:=fun l=>by
  induction l with
  | nil=>rfl
  | cons x l ih=>rw [N2,Nb,ih,Nj];show 2+_=_;omega
 have ai:∀j,j<=ld.length->(VR C s (ld.take j)).length=s.length+2*j:=fun j hj=>by
  unfold VR RA
  rw [Nb,Ou,a2,N6];omega
 refine NM (fun z:Nat×Option Addr×Nat=>ld.length-z.1) (fun z A G'=>z.1<=ld.length/\CF A p4 ld.length c4 to dl B12/\A 76=.slice p4 ld.length c4/\A 77=Vi ld.length/\A 78=Vi z.1/\A 15=Vi (Tt to dl s+SE C to (ld.take z.1))/\A 16=.slice z.2.1 (s.length+2*z.1) z.2.2/\Own G.length G' enc3 3 z.2.1 z.2.2 (VR C s (ld.take z.1))/\Chg [] G G'/\∀i,i<z.1->okX C ld i) (0,p0,c0)
  ⟨Nv _,hf,am,an,ao,by rw [show SE C to (ld.take 0)=0 from rfl,Ox];exact f15,f16,by rw [show VR C s (ld.take 0)=RA s from Na _];exact hO,aq,fun i hi=>by omega⟩ ?_
 rintro ⟨j,p,c⟩ A G' ⟨hj,⟨q2,q3,U,d⟩,g,e,t,B,I,F,q,o⟩ hN
 simp only at hj t B I F o
 rw [NQ Nu4.eq_1]
 refine NI ?_
 by_cases b:j<ld.length
 case neg=>
  obtain rfl:j=ld.length:=by omega
  have H:=ai ld.length (Ng _)
  rw [Of] at B F H
  simp only [n22,e,t,b,SB,seval,NJ,NF]
  exact hK _ _ p c ⟨q2,q3,U,d⟩ (F.app _) q.app o B (by rw [H];exact I)
 have H:=ai j hj
 have sG:=q.sl hs (fun _ _ _=>by simp)
 have T:=fun Z=>(sG.app Z).loadCells NU b
 have V:=QN sG b rfl
 have ba:=q.len
 have v:lim<=G'.length:=by omega
 have au:=UM hM
 have w:=fun Z=>(NZ.refl.app (X:=Z)).cells (q.cells ap (by simp))
 have kM:∀Z,NC (G'++Z) M=.map (Sz kD vL es):=fun Z=>by rw [NK (by omega)];exact q.get hM au (by simp)
 have f:findKey (.agg #[Vi (gt ld j).leg,Vi (gt ld j).dep,Vi (gt ld j).arr,Vi 0]) (Sz kD vL es) 0=some ((fk (UD (gt ld j)) es 0).map fun y=>(y.1,vL y.2)):=TM (vv:=vL) N0s (UD (gt ld j)) es 0
 have u:TW (.ints [.i64,.i64,.i64,.i64]) (.agg #[Vi (gt ld j).leg,Vi (gt ld j).dep,Vi (gt ld j).arr,Vi 0])=true:=N0r (k:=UD (gt ld j))
 have r:=Wz (UD (gt ld j)) es 0
 rw [a0] at r
 have w1:IntKind.i64.wrap ((j:Int)+1)=((j+1:Nat):Int):=NS (by omega)
 cases hc:fk (UD (gt ld j)) es 0 with
 | none=>
   rw [hc] at f r
   simp only [Ov] at f r
   simp only [n22,r22,d,g,e,t,b,T,V,w,kM,f,u,v,NL,NU,Su,Sn,Tx,SB,seval,NJ,NF,PW,place,NA]
   exact L _ _ rfl rfl q.app ⟨j,b,fun ⟨⟨n,h1,_⟩,_⟩=>by rw [<-r] at h1;cases h1⟩
 | some yy=>
   obtain ⟨jj,n⟩:=yy
   rw [hc] at f r
   simp only [Nz,vL] at f r
   have aj:Uc C (gt ld j)=n:=by unfold Uc;rw [<-r];rfl
   obtain ⟨cc,az,ah,a1⟩:=TS r.symm
   obtain ⟨ad,bc,aw⟩:=hC cc az
   rw [a1] at ad aw
   unfold SH UD at ah
   obtain ⟨bd,be,bf⟩:cc.1.id=(gt ld j).leg/\cc.2=(gt ld j).dep/\cc.2+cc.1.mins=(gt ld j).arr:=by
    have:=Prod.mk.inj ah
    exact ⟨this.1,(Prod.mk.inj this.2).1,(Prod.mk.inj this.2).2⟩
   have ae:=ad
   unfold Fine at ae
   have mt:OP=1051898399:=rfl
   by_cases g1:(gt ld j).gr<1
   ·simp only [n22,r22,d,g,e,t,b,T,V,w,kM,f,u,v,NL,NU,Su,Sn,Tx,Ue,NV,Nq g1,SB,seval,NJ,NF,PW,place,NA]
    exact L _ _ rfl rfl q.app ⟨j,b,fun ⟨⟨n,h1,h2,_⟩,_⟩=>by omega⟩
   by_cases g2:n.grams<(gt ld j).gr
   ·simp only [n22,r22,d,g,e,t,b,T,V,w,kM,f,u,v,NL,NU,Su,Sn,Tx,Ue,NV,Ud,Nn g1,Nq g2,SB,seval,NJ,NF,PW,place,NA]
    exact L _ _ rfl rfl q.app ⟨j,b,fun ⟨⟨bg,h1,h2,h3⟩,_⟩=>by rw [<-r] at h1;cases h1;omega⟩
   have ac:0<j->IntKind.i64.wrap ((j:Int)-1)=((j-1:Nat):Int):=fun h=>by rw [NY (by omega) (by omega)];omega
   by_cases g3:0<j/\¬RH (gt ld (j-1)) (gt ld j)
   ·have Y:0<(j:Int):=by omega
    have g5:0<=Nl6 (gt ld (j-1)) (gt ld j):=by
     have:=g3.2
     rw [<-Nc3] at this;omega
    have P:=fun Z=>(sG.app Z).loadCells NU (i:=j-1) (by omega)
    have R:=QN (i:=j-1) sG (by omega) rfl
    simp only [n22,r22,U,d,g,e,t,b,T,V,w,kM,f,u,v,NL,NU,Su,Sn,Tx,Ue,NV,Ud,OH,Nn g1,Nn g2,Nq Y,ac g3.1,P,R,Xq,Nq g5,SB,seval,NE,NJ,NF,PW,place,NA]
    exact L _ _ rfl rfl q.app ⟨j,b,fun ⟨_,h⟩=>g3.2 (h g3.1)⟩
   have N:okX C ld j:=⟨⟨n,r.symm,by omega,by omega⟩,fun h0=>Ns fun hh=>g3 ⟨h0,hh⟩⟩
   have eT:ld.take (j+1)=ld.take j++[gt ld j]:=QH b
   have eC:VR C s (ld.take (j+1))=VR C s (ld.take j)++[(n.frm,(gt ld j).dep-n.cut,-(gt ld j).gr),(n.dst,(gt ld j).arr,(gt ld j).gr)]:=by
    unfold VR
    rw [eT,Pc,<-Nr,N2,Qz,Na]
    show _++Xg C (gt ld j)=_
    unfold Xg
    rw [aj]
   have S:Tt to dl s+SE C to (ld.take (j+1))=Tt to dl s+SE C to (ld.take j)+(if n.dst=to then (gt ld j).gr else 0):=by
    rw [eT,Ndh]
    show _+(_+((if (Uc C (gt ld j)).dst=to then (gt ld j).gr else 0)+0))=_
    rw [aj];omega
   have aa:∀x∈ld.take j,0<=x.gr/\x.gr<=1000000000:=fun x hx=>by
    obtain ⟨i,hi,rfl⟩:=List.mem_iff_getElem.1 hx
    rw [N6] at hi
    obtain ⟨⟨l2,h1,h2,h3⟩,_⟩:=o i (by omega)
    obtain ⟨c2,ay,_,hk⟩:=TS h1
    have:=(hC c2 ay).1
    rw [hk] at this
    unfold Fine at this
    rw [List.getElem_take,<-OJ (by omega)]
    omega
   have av:=Nob (C:=C) (to:=to) aa
   rw [N6] at av
   have bb:=Ng8 (to:=to) (dl:=dl) a5
   have wd:IntKind.i64.wrap ((gt ld j).dep-n.cut)=(gt ld j).dep-n.cut:=NY (by omega) (by omega)
   have wn:IntKind.i64.wrap (0-(gt ld j).gr)=-(gt ld j).gr:=by rw [Int.zero_sub];exact NY (by omega) (by omega)
   have wa:IntKind.i64.wrap (Tt to dl s+SE C to (ld.take j)+(gt ld j).gr)=Tt to dl s+SE C to (ld.take j)+(gt ld j).gr:=NY (by omega) (by omega)
   obtain ⟨G2,p',c',e2,O2,C2,K2,a6⟩:=(F.app [Vc (QI (gt ld j)),Vc (QO n)]).more (lim':=lim) (bytes:=24) a3 Vk (by decide) [(n.frm,(gt ld j).dep-n.cut,-(gt ld j).gr),(n.dst,(gt ld j).arr,(gt ld j).gr)] (by rw [H];simp;unfold PM;omega) (by rw [H];simp;omega) (by simp;omega) [Vc [Vi n.frm,Vi ((gt ld j).dep-n.cut),Vi (-(gt ld j).gr),Vi n.dst,Vi (gt ld j).arr,Vi (gt ld j).gr]] (x:=.slice (Sa (G'.length+2)) 2 2) (str:=false)
    (QG (m:=[(n.frm,(gt ld j).dep-n.cut,-(gt ld j).gr),(n.dst,(gt ld j).arr,(gt ld j).gr)]) (Sl.row (ro:=false) Vk (by rw [Nr,OL];rfl))) rfl
   rw [H] at e2
   simp only [Nj,Nl,N0,Nat.reduceAdd,Nr,Oc,Ob] at e2 O2
   have ak:∀Z,NC (G2++Z) G'.length=Vc (QI (gt ld j)):=fun Z=>by
    have:=K2 G'.length (by simp) fun a ha=>by have:=(F.block ha).2;omega
    rw [Na,NN] at this
    exact (NZ.refl.app).cells this
   have O:∀Z,NC (G2++Z) (G'.length+1)=Vc (QO n):=fun Z=>by
    have:=K2 (G'.length+1) (by simp) fun a ha=>by have:=(F.block ha).2;omega
    rw [Na,OL] at this
    exact (NZ.refl.app).cells this
   have D:Chg [] G (G2++[]):=C2 [] G (Ng _) q.app
   by_cases W:0<j
   ·have Y:0<(j:Int):=by omega
    have g5:¬0<=Nl6 (gt ld (j-1)) (gt ld j):=by
     have:RH (gt ld (j-1)) (gt ld j):=Ns fun hh=>g3 ⟨W,hh⟩
     rw [<-Nc3] at this;omega
    have P:=fun Z=>(sG.app Z).loadCells NU (i:=j-1) (by omega)
    have R:=QN (i:=j-1) sG (by omega) rfl
    by_cases J:n.dst=to
    ·rw [Nk J] at S
     simp only [n22,b,T,V,w,kM,f,u,v,NL,NU,Su,Sn,Tx,Ue,NV,PY,QX,Si,Ud,OH,Nn g1,Nn g2,Nq Y,ac W,P,R,Xq,Nn g5,n22,q2,U,d,g,e,t,B,I,ak,O,wd,wn,wa,w1,NU,Su,Sn,Tx,Ue,NV,PY,QX,Si,Ud,OH,e2,Nq J,SB,seval,NE,NJ,NF,PW,place,NA]
     exact hN (j+1,p',c') _ _ ⟨by show j+1<=_;omega,⟨q2,q3,U,d⟩,g,e,rfl,by rw [S];exact rfl,by rw [show s.length+2*(j+1)=s.length+(2*j+2) by omega];exact rfl,by rw [eC];exact O2,D,fun i hi=>by rcases (by omega:i<j\/i=j) with h | h;exact o i h;rw [h];exact N⟩ (by show ld.length-(j+1)<ld.length-j;omega)
    ·rw [Nf J,Ox] at S
     simp only [n22,b,T,V,w,kM,f,u,v,NL,NU,Su,Sn,Tx,Ue,NV,PY,QX,Si,Ud,OH,Nn g1,Nn g2,Nq Y,ac W,P,R,Xq,Nn g5,n22,q2,U,d,g,e,t,I,O,wd,wn,w1,NU,Su,Sn,Tx,Ue,NV,PY,QX,Si,Ud,OH,e2,Nn J,SB,seval,NE,NJ,NF,PW,place,NA]
     exact hN (j+1,p',c') _ _ ⟨by show j+1<=_;omega,⟨q2,q3,U,d⟩,g,e,rfl,by rw [S];exact B,by rw [show s.length+2*(j+1)=s.length+(2*j+2) by omega];exact rfl,by rw [eC];exact O2,D,fun i hi=>by rcases (by omega:i<j\/i=j) with h | h;exact o i h;rw [h];exact N⟩ (by show ld.length-(j+1)<ld.length-j;omega)
   ·have Y:¬0<(j:Int):=by omega
    by_cases J:n.dst=to
    ·rw [Nk J] at S
     simp only [n22,b,T,V,w,kM,f,u,v,NL,NU,Su,Sn,Tx,Ue,NV,PY,QX,Si,Ud,Nn g1,Nn g2,Nn Y,n22,q2,d,g,e,t,B,I,ak,O,wd,wn,wa,w1,NU,Su,Sn,Tx,Ue,NV,PY,QX,Si,Ud,e2,Nq J,SB,seval,NJ,NF,PW,place,NA]
     exact hN (j+1,p',c') _ _ ⟨by show j+1<=_;omega,⟨q2,q3,U,d⟩,g,e,rfl,by rw [S];exact rfl,by rw [show s.length+2*(j+1)=s.length+(2*j+2) by omega];exact rfl,by rw [eC];exact O2,D,fun i hi=>by rcases (by omega:i<j\/i=j) with h | h;exact o i h;rw [h];exact N⟩ (by show ld.length-(j+1)<ld.length-j;omega)
    ·rw [Nf J,Ox] at S
     simp only [n22,b,T,V,w,kM,f,u,v,NL,NU,Su,Sn,Tx,Ue,NV,PY,QX,Si,Ud,Nn g1,Nn g2,Nn Y,n22,q2,d,g,e,t,I,O,wd,wn,w1,NU,Su,Sn,Tx,Ue,NV,PY,QX,Si,Ud,e2,Nn J,SB,seval,NJ,NF,PW,place,NA]
     exact hN (j+1,p',c') _ _ ⟨by show j+1<=_;omega,⟨q2,q3,U,d⟩,g,e,rfl,by rw [S];exact B,by rw [show s.length+2*(j+1)=s.length+(2*j+2) by omega];exact rfl,by rw [eC];exact O2,D,fun i hi=>by rcases (by omega:i<j\/i=j) with h | h;exact o i h;rw [h];exact N⟩ (by show ld.length-(j+1)<ld.length-j;omega)
noncomputable def Um (P:List Int) (L:List Leg) (s:List Flow.Src) (to dl:Int) (ld:List Flow.Ld):Int×Bool:=
 haveI:=Classical.propDecidable (OC P L s to dl=0/\X5 (NP L to dl) s ld)
 if OC P L s to dl=0/\X5 (NP L to dl) s ld then (Tt to dl s+SE (NP L to dl) to ld,true) else (0,false)
theorem VE {P:List Int} {L:List Leg} {s:List Flow.Src} {to dl:Int} {ld:List Flow.Ld} (h:¬(OC P L s to dl=0/\X5 (NP L to dl) s ld)):Um P L s to dl ld=(0,false):=by
 unfold Um
 rw [Nf h]
theorem Xt {P:List Int} {L:List Leg} {s:List Flow.Src} {to dl:Int} {ld:List Flow.Ld} (h1:OC P L s to dl=0) (h2:X5 (NP L to dl) s ld):Um P L s to dl ld=(Tt to dl s+SE (NP L to dl) to ld,true):=by
 unfold Um
 rw [Nk ⟨h1,h2⟩]
theorem Nwp [OB] {mp:Bool} {lim:Nat} {pp pl ps p4:Option Addr} {P:List Int} {L:List Leg} {s:List Flow.Src} {ld:List Flow.Ld} {cp cl cs c4:Nat} {to dl:Int} {H:NB} {Q:Value->NB->Prop} (hn:NetIn H pp pl P L) (S:Sl H encS 3 ps s) (J:s.length<2 ^ 63) (q:Sl H QI 4 p4 ld) (ae:ld.length<=200) (U:QB P L=0->L.length<=8) :
  NR E mp lim 22 [.agg (QJ pp P.length cp pl L.length cl).toArray,.slice ps s.length cs,Vi to,Vi dl,.slice p4 ld.length c4] H Q=Q (.tuple #[Vi (Um P L s to dl ld).1,.bool (Um P L s to dl ld).2]) H:=by
 refine pc (by decide) e22 rfl rfl ?_
 rw [b22,c22]
 have aq:H.length<=H.length:=Ng _
 by_cases j:OC P L s to dl=0
 case neg=>
  rw [VE fun h=>j h.1]
  simp only [n22,r22,OG,TQ (hn.app _) (S.app _) J,Nn j,SB,seval,NE,NJ,NF,NH,place,NA,NG]
 have k:=S9 j
 have aw:=U (RX j)
 have av:=SC (to:=to) (dl:=dl) k.net.fine
 have B:∀c∈NP L to dl,Fine c.1/\0<=c.2/\c.2+c.1.mins<=OP:=fun c hc=>by
  obtain ⟨h1,h2,d,_,R,q,h5⟩:=QT hc
  have:=k.d1
  exact ⟨k.net.fine _ h1,by omega,by omega⟩
 have N:∀a,pl=some a->L≠[]->a.block<H.length:=fun a j ag=>by
  have:=hn.sl
  rw [j] at this
  exact this.lt ag
 simp only [n22,OG,TQ (hn.app _) (S.app _) J,j,SB,seval,NE,NJ,NF,NH,place,NA]
 refine Zl ?_
 rw [Wn,YD]
 try simp only [Nr,Oc,Ob,Nb,Nj,Nl,N0,Nat.reduceAdd,P4]
 obtain ⟨G0,e⟩:∃G0,G0=H++[Vc (QJ pp P.length cp pl L.length cl),Blk.map [],Vc [.map (some (H.length+1))],Vc (QJ pp P.length cp pl L.length cl),Vc [Vi to],Vc [Vi dl]]:=⟨_,rfl⟩
 have b1:NC G0 (H.length+1)=.map []:=by rw [e];exact OL
 have b2:NC G0 (H.length+2)=Vc [.map (some (H.length+1))]:=by rw [e];exact OL
 have b3:NC G0 (H.length+3)=Vc (QJ pp P.length cp pl L.length cl):=by rw [e];exact OL
 have b4:NC G0 (H.length+4)=Vc [Vi to]:=by rw [e];exact OL
 have b5:NC G0 (H.length+5)=Vc [Vi dl]:=by rw [e];exact OL
 have bo:∀b,b<H.length->NC G0 b=NC H b:=fun b z=>by rw [e];exact NK z
 have bl:G0.length=H.length+6:=by rw [e];simp
 have am:Sl G0 QO 8 pl L:=by rw [e];exact hn.sl.app _
 have an:Sl G0 encS 3 ps s:=by rw [e];exact S.app _
 have aj:Sl G0 QI 4 p4 ld:=by rw [e];exact q.app _
 rw [<-e]
 clear e
 refine Nya (M:=H.length+1) (B12:=H.length+2) (Bd2:=H.length+5) (Bn2:=H.length+3) (Bt2:=H.length+4) (np:=P.length) (cpn:=cp) (cl:=cl) (pp2:=pp) (pl:=pl) (L:=L) (to:=to) (dl:=dl) (Kk:=(H.length+3)::(H.length+4)::(H.length+5)::List.range H.length) (RX j) b1 b2 (by omega) rfl rfl b5 b3 b4 am ⟨by simp,by simp,by simp,fun a f g=>by simp [N a f g]⟩ (fun b z=>?_) k.net.fine (by omega) k.d0 k.d1 fun G1 es Y V t n ad=>?_
 ·simp only [Nu,List.mem_range] at z
  omega
 rw [bl] at ad
 have ao:Sl G1 encS 3 ps s:=WZ an fun a f g=>by
  have h1:a.block<H.length:=by
   have:=S;rw [f] at this;exact this.lt g
  exact t _ (by omega) (by omega)
 have ak:Sl G1 QI 4 p4 ld:=WZ aj fun a f g=>by
  have h1:a.block<H.length:=by
   have:=q;rw [f] at this;exact this.lt g
  exact t _ (by omega) (by omega)
 have b12:NC G1 (H.length+2)=Vc [.map (some (H.length+1))]:=(t _ (by omega) (by omega)).trans b2
 have u:∀x∈s,0<=x.gr/\x.gr<=1000000000:=fun x hx=>(k.src x hx).2.2.2
 have o:s.length<=60:=by have:=k.ns;omega
 rw [show ∀(a b c d:AItem),[a,b,c]++[d]=[a,b,c,d] from fun _ _ _ _=>rfl]
 refine NI ?_
 simp only [n22,SB,seval,NJ,NH]
 refine Ny7 (p4:=p4) (n4:=ld.length) (c4:=c4) (cs:=cs) (B12:=H.length+2) (to:=to) (dl:=dl) ⟨rfl,rfl,rfl,rfl⟩ (ao.app _) o u (by simp;omega) rfl rfl rfl rfl rfl fun au G2 p c Z D r v w=>?_
 obtain ⟨q2,q3,q4,O⟩:=Z
 simp only [Na] at D r
 have I:=r.len
 refine NI ?_
 simp only [n22,q4,SB,seval,NJ]
 have ai:∀fr' G',fr' 10=Vi 0->fr' 11=.bool false->Chg [] G1 G'->¬X5 (NP L to dl) s ld->∀K,PI E a22 H.length [.code .retM,.code K,.code .retM,.mark G0.length] fr' G' fun v' x=>v'=Value.tuple #[Value.int IntKind.i64 (Um P L s to dl ld).fst,Value.bool (Um P L s to dl ld).snd]:=fun fr' G' h1 h2 R q K=>by
  have hd:NC G' G0.length=.dfr:=R.get n (by omega) (by simp)
  rw [VE fun h=>q h.2]
  simp only [r22,h1,h2,hd,show H.length<=G0.length by omega,SB,seval,NG]
 refine Ny8 (p4:=p4) (c4:=c4) (B12:=H.length+2) (M:=H.length+1) (s:=s) (C:=NP L to dl) (es:=es) (to:=to) (dl:=dl) ⟨q2,q3,q4,O⟩ ak ae o u B (by omega) b12 V Y (by rw [Na];exact r) (D.app _) rfl rfl rfl v w (fun T G3 h1 h2 R q=>?_) fun T G3 p3 c3 aa F A m v w=>?_
 ·obtain ⟨i,hi,ah⟩:=q
  exact ai _ _ h1 h2 R (fun h=>ah (h.1 i hi)) _
 obtain ⟨q2,q3,q4,O⟩:=aa
 have ay:=A.len
 have ap:(VR (NP L to dl) s ld).length<=500:=by
  unfold VR RA
  rw [Nb,Ou]
  have I:∀l:List Flow.Ld,(l.flatMap (Xg (NP L to dl))).length=2*l.length:=fun l=>by
   induction l with
   | nil=>rfl
   | cons x l ih=>rw [N2,Nb,ih,Nj];show 2+_=_;omega
  rw [I];omega
 have W:∀x∈VR (NP L to dl) s ld,-100000000000<=x.2.2/\x.2.2<=100000000000:=fun x hx=>by
  rcases Nw.1 hx with h1 | h1
  ·obtain ⟨y,hy,rfl⟩:=List.mem_map.1 h1
   have:=u y hy
   show _<=y.gr/\y.gr<=_;omega
  ·obtain ⟨y,hy,h2⟩:=List.mem_flatMap.1 h1
   obtain ⟨i,hi,rfl⟩:=List.mem_iff_getElem.1 hy
   obtain ⟨⟨lg,g1,g2,g3⟩,_⟩:=m i hi
   obtain ⟨c2,X,_,hk⟩:=TS g1
   have hF:=(B c2 X).1
   rw [hk] at hF
   unfold Fine at hF
   rw [OJ hi] at g2 g3
   unfold Xg at h2
   simp only [Nu,On,or_false] at h2
   rcases h2 with rfl | rfl
   ·show _<=-ld[i].gr/\-ld[i].gr<=_;omega
   ·show _<=ld[i].gr/\ld[i].gr<=_;omega
 refine NI ?_
 simp only [n22,w,SB,seval,NE,NJ]
 refine Nq2 (F.app _) (by omega) (by simp;omega) (by omega) W fun b G4 z ac=>?_
 have G:NC G3 G0.length=.dfr:=A.get n (by omega) (by simp)
 have hd:NC G4 G0.length=.dfr:=by
  rw [ac _ (by simp;omega) (Nm5 F G),Na];exact G
 cases b with
 | true=>
   rw [Xt j ⟨m,z.1 rfl⟩]
   simp only [n22,r22,v,hd,show H.length<=G0.length by omega,SB,seval,NJ,PW,NG]
 | false=>
   rw [VE fun h=>by cases z.2 h.2.2]
   simp only [n22,r22,hd,show H.length<=G0.length by omega,SB,seval,NJ,PW,NG]
end Go.Proofs.YtohnaffmcjbpoaaGreat.Fn


namespace Go.Flow
open Go.AM Go.Net
def WW:List Pr->List Pr->Prop
 | [],[]=>True
 | p::a,q::b=>(q.head=p.head/\q.tail=p.tail/\0<=q.flow/\q.flow<=p.room)/\WW a b
 | _,_=>False
theorem Nnb:∀{a b:List Pr},b.length=a.length->(∀j,j<a.length->(gt b j).head=(gt a j).head/\(gt b j).tail=(gt a j).tail/\0<=(gt b j).flow/\(gt b j).flow<=(gt a j).room)->WW a b
 | [],[],_,_=>trivial
 | [],q::b,h,_=>by simp at h
 | p::a,[],h,_=>by simp at h
 | p::a,q::b,h,hj=>⟨hj 0 (by simp),Nnb (by simpa using h) fun j c=>by have:=hj (j+1) (by simpa using c);rw [OT,OT] at this;exact this⟩
theorem WW.split:∀{a b l:List Pr},WW (a++b) l->WW a (l.take a.length)/\WW b (l.drop a.length)
 | [],b,l,h=>⟨by simp [WW],h⟩
 | p::a,b,[],h=>by simp [WW] at h
 | p::a,b,q::l,h=>by
   obtain ⟨h1,h2⟩:=h
   obtain ⟨c,d⟩:=WW.split h2
   exact ⟨⟨h1,c⟩,d⟩
theorem WW.mem:∀{a b:List Pr},WW a b->∀q∈b,∃p∈a,q.head=p.head/\q.tail=p.tail/\0<=q.flow/\q.flow<=p.room
 | [],[],_,q,hq=>by cases hq
 | [],q'::b,h,_,_=>by cases h
 | p::a,[],h,_,_=>by cases h
 | p::a,q'::b,h,q,hq=>by
   rcases Nu.1 hq with rfl | hq
   ·exact ⟨p,Nm,h.1⟩
   ·obtain ⟨c,h1,h2⟩:=WW.mem h.2 q hq
    exact ⟨c,Nh _ h1,h2⟩
theorem Ngi {S:Nat->Bool}:∀{a b:List Pr},net S (a++b)=net S a+net S b
 | [],b=>by simp [net]
 | p::a,b=>by rw [Oc,net,net,Ngi];omega
theorem IsFlow.inner {n:Nat} {l:List Pr} (h:IsFlow n l) {S:Nat->Bool} (a:S 0=false) (h1:S 1=false):net S l=0:=by
 have h2:=Z4 (S:=S) h.lt
 rw [Z0 h.bal n h.two,a,h1] at h2
 simp at h2
 omega
section
variable {PL:List (Int×Int)} {to dl:Int} {s:List Src} {C:List (Leg×Int)} {l:List Pr}
theorem Nk9 (h:PlOk PL to dl s C) (g:∀x∈s,0<=x.gr) (e:∀c∈C,0<=c.1.grams) (a:Alike (RO PL to dl s C) l) (f:IsFlow (PL.length+2) l):WW (RO PL to dl s C) l:=by
 refine Nnb a.len fun j d=>?_
 obtain ⟨e1,e2⟩:=a.gts j
 have b:j<l.length:=by rw [a.len];exact d
 have hn:=f.nn _ (PK b)
 have hc:=a.cap (2*j) (by omega)
 rw [show tw (2*j)=2*j+1 by unfold tw;rw [Nk (by omega)],Xc,YY,Xc,YY] at hc
 have i:=(TU h g e (PK d)).2.2.2
 exact ⟨e1,e2,hn.2,by omega⟩
def Mk (PL:List (Int×Int)) (p t:Int) (v:Nat):Bool:=match v with
 | 0=>false
 | 1=>false
 | i+2=>decide (i<PL.length)&&decide ((gt PL i).1=p/\(gt PL i).2<=t)
theorem Mj {p t q u:Int} (hp:p≠to) (h:q≠to->(q,u)∈PL):Mk PL p t (PV PL to q u)=decide (q=p/\u<=t):=by
 by_cases a:q=to
 ·unfold PV
  rw [Nk a]
  show false=_
  rw [eq_comm,decide_eq_false_iff_not]
  rintro ⟨e,_⟩
  exact hp (e▸a)
 ·obtain ⟨h1,h2,b⟩:=VB a (h a)
  rw [h1]
  show (decide (PL.idxOf (q,u)<PL.length)&&decide ((gt PL (PL.idxOf (q,u))).1=p/\(gt PL (PL.idxOf (q,u))).2<=t))=_
  rw [b,No h2];rfl
theorem Nra {p t:Int} (h:PlOk PL to dl s C) {A:List Pr} (e:WW (PG PL 2) A):0<=net (Mk PL p t) A:=by
 refine (Yb fun q f=>?_).1
 obtain ⟨g,c,e1,e2,e3,_⟩:=e.mem q f
 refine ⟨e3,fun b=>?_⟩
 obtain ⟨j,h1,h2,rfl⟩:=Un.1 c
 rw [e1] at b
 rw [e2]
 have e4:Mk PL p t (2+j+1)=(decide (j+1<PL.length)&&decide ((gt PL (j+1)).1=p/\(gt PL (j+1)).2<=t)):=by rw [show 2+j+1=j+1+2 by omega];rfl
 have d:Mk PL p t (2+j)=(decide (j<PL.length)&&decide ((gt PL j).1=p/\(gt PL j).2<=t)):=by rw [show 2+j=j+2 by omega];rfl
 change Mk PL p t (2+j+1)=true at b
 show Mk PL p t (2+j)=true
 rw [e4] at b
 rw [d]
 simp only [N9,N3] at b⊢
 have a:=(N5.mp h.lt) j (j+1) (by omega) h1 (by omega)
 rw [<-OJ (by omega),<-OJ h1] at a
 unfold Vm at a
 omega
theorem Nfz {p t:Int} (hp:p≠to):∀{s:List Src} {B:List Pr},(∀x∈s,0<=x.gr)->(∀x∈s,x.rd<=dl->x.pl≠to->(x.pl,x.rd)∈PL)->WW (Sj PL to dl s) B->- net (Mk PL p t) B<=QQ p t (RA s)
 | [],B,_,_,h=>by
   cases B with
   | nil=>exact Oa _
   | cons q B=>cases h
 | x::s,B,hs,hm,h=>by
   have j:=hs x Nm
   have b:=fun y d=>hs y (Nh x d)
   have a:=fun y d=>hm y (Nh x d)
   have e:QQ p t (RA (x::s))=(if x.pl=p/\x.rd<=t then x.gr else 0)+QQ p t (RA s):=rfl
   rw [e]
   unfold Sj at h
   by_cases hr:x.rd<=dl
   ·rw [Nk hr] at h
    cases B with
    | nil=>cases h
    | cons q B=>
      obtain ⟨⟨h1,h2,i,f⟩,g⟩:=h
      have ih:=Nfz (t:=t) hp (s:=s) (B:=B) b a g
      have e1:Mk PL p t q.tail=false:=by rw [h2];rfl
      have e2:Mk PL p t q.head=decide (x.pl=p/\x.rd<=t):=by
       rw [h1];exact Mj hp fun c=>hm x Nm hr c
      rw [net,e1,e2]
      change q.flow<=x.gr at f
      by_cases hc:x.pl=p/\x.rd<=t
      ·rw [Nk hc,No hc];simp;omega
      ·rw [Nf hc,Nx hc];simp;omega
   ·rw [Nf hr] at h
    have ih:=Nfz (t:=t) hp (s:=s) (B:=B) b a h
    split<;>omega
theorem Nmj {p t:Int} {a:List (Leg×Int)} (hp:p≠to) (hl:∀c∈a,Vo a (SH c)=some c.1):∀{C:List (Leg×Int)} {X:List Pr},(∀c∈C,c∈a)->(∀c∈C,(c.1.frm≠to/\(c.1.frm,c.2-c.1.cut)∈PL)/\(c.1.dst≠to->(c.1.dst,c.2+c.1.mins)∈PL))->WW (Tu PL to C) X->QQ p t ((RI C X).flatMap (Xg a))=- net (Mk PL p t) X
 | [],X,_,_,h=>by
   cases X with
   | nil=>rfl
   | cons q X=>cases h
 | c::C,X,h0,hm,h=>by
   cases X with
   | nil=>cases h
   | cons q X=>
     obtain ⟨⟨h1,h2,l,m⟩,g⟩:=h
     have ih:=Nmj (t:=t) hp hl (C:=C) (X:=X) (fun y b=>h0 y (Nh _ b)) (fun y b=>hm y (Nh _ b)) g
     obtain ⟨⟨n,j⟩,k⟩:=hm c Nm
     have i:Uc a ⟨c.1.id,c.2,c.2+c.1.mins,q.flow⟩=c.1:=by
      unfold Uc
      have:=hl c (h0 c Nm)
      unfold SH at this
      show (Vo a (c.1.id,c.2,c.2+c.1.mins)).getD default=_
      rw [this];rfl
     have e1:Mk PL p t q.tail=decide (c.1.frm=p/\c.2-c.1.cut<=t):=by rw [h2];exact Mj hp fun _=>j
     have e2:Mk PL p t q.head=decide (c.1.dst=p/\c.2+c.1.mins<=t):=by rw [h1];exact Mj hp k
     rw [RI,Pc,Ug,ih,net,e1,e2]
     by_cases d:0<q.flow
     ·rw [Nk d,N2,Qz,Na]
      unfold Xg
      rw [i]
      simp only [QQ]
      by_cases e:c.1.frm=p/\c.2-c.1.cut<=t<;>by_cases f:c.1.dst=p/\c.2+c.1.mins<=t<;>simp [e,f]<;>omega
     ·rw [Nf d]
      have e0:q.flow=0:=by omega
      rw [e0]
      simp [QQ]
theorem Nrb {A:List Pr} (a:WW (PG PL 2) A):exc 1 A=0:=by
 have key:∀l:List Pr,(∀q∈l,q.head≠1/\q.tail≠1)->exc 1 l=0:=fun l=>by
  induction l with
  | nil=>intro _;rfl
  | cons q l ih=>
    intro h
    have:=h q Nm
    rw [exc,Nf this.1,Nf this.2,ih fun x c=>h x (Nh _ c)];rfl
 refine key A fun q b=>?_
 obtain ⟨p,hp,e1,e2,_⟩:=a.mem q b
 obtain ⟨j,_,_,rfl⟩:=Un.1 hp
 rw [e1,e2]
 exact ⟨by show 2+j+1≠1;omega,by show 2+j≠1;omega⟩
theorem Nf0:∀{s:List Src} {B:List Pr},(∀x∈s,0<=x.gr)->WW (Sj PL to dl s) B->exc 1 B<=Tt to dl s
 | [],B,_,h=>by
   cases B with
   | nil=>exact Oa _
   | cons q B=>cases h
 | x::s,B,hs,h=>by
   have f:=hs x Nm
   have a:=fun y d=>hs y (Nh x d)
   unfold Sj at h
   rw [Tt]
   by_cases hr:x.rd<=dl
   ·rw [Nk hr] at h
    cases B with
    | nil=>cases h
    | cons q B=>
      obtain ⟨⟨h1,h2,e,b⟩,c⟩:=h
      have ih:=Nf0 (s:=s) (B:=B) a c
      have e1:q.tail≠1:=by rw [h2];show 0≠1;omega
      change q.flow<=x.gr at b
      change q.head=PV PL to x.pl x.rd at h1
      rw [exc,Nf e1]
      by_cases hc:x.pl=to
      ·rw [Nk (show x.pl=to/\x.rd<=dl from ⟨hc,hr⟩)]
       split<;>omega
      ·have:q.head≠1:=by rw [h1];unfold PV;rw [Nf hc];omega
       rw [Nf this,Nf (show ¬(x.pl=to/\x.rd<=dl) from fun h=>hc h.1)];omega
   ·rw [Nf hr] at h
    have ih:=Nf0 (s:=s) (B:=B) a h
    rw [Nf fun h=>hr h.2];omega
theorem Nmk {a:List (Leg×Int)} (hl:∀c∈a,Vo a (SH c)=some c.1):∀{C:List (Leg×Int)} {X:List Pr},(∀c∈C,c∈a)->(∀c∈C,c.1.frm≠to)->WW (Tu PL to C) X->exc 1 X=SE a to (RI C X)
 | [],X,_,_,h=>by
   cases X with
   | nil=>rfl
   | cons q X=>cases h
 | c::C,X,h0,hm,h=>by
   cases X with
   | nil=>cases h
   | cons q X=>
     obtain ⟨⟨h1,h2,g,i⟩,e⟩:=h
     have ih:=Nmk hl (C:=C) (X:=X) (fun y b=>h0 y (Nh _ b)) (fun y b=>hm y (Nh _ b)) e
     have f:Uc a ⟨c.1.id,c.2,c.2+c.1.mins,q.flow⟩=c.1:=by
      unfold Uc
      have:=hl c (h0 c Nm)
      unfold SH at this
      show (Vo a (c.1.id,c.2,c.2+c.1.mins)).getD default=_
      rw [this];rfl
     have e1:q.tail≠1:=by
      rw [h2]
      show PV PL to c.1.frm _≠1
      unfold PV;rw [Nf (hm c Nm)];omega
     have e2:q.head=1↔c.1.dst=to:=by
      rw [h1]
      show PV PL to c.1.dst _=1↔_
      unfold PV
      by_cases hd:c.1.dst=to
      ·simp [hd]
      ·rw [Nf hd];simp [hd]
     rw [exc,Nf e1,ih,RI,Ndh]
     by_cases d:0<q.flow
     ·rw [Nk d,SE,SE,f]
      by_cases hd:c.1.dst=to
      ·rw [Nk (e2.2 hd),Nk hd];dsimp only;omega
      ·rw [Nf fun h=>hd (e2.1 h),Nf hd];omega
     ·rw [Nf d,SE]
      split<;>omega
end
end Go.Flow


