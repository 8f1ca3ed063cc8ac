/-
  Joined texts, 7 of 10. A part of the claim that the last text states.
-/
import Derived.Test.YtohnaffmcjbpoaaGreatPT6
set_option linter.unusedVariables false
set_option linter.unusedSimpArgs false
set_option linter.defProp false
set_option linter.unusedSectionVars false
set_option maxRecDepth 100000
set_option maxHeartbeats 4000000
namespace Go.Proofs.YtohnaffmcjbpoaaGreat.Fn
open Go.AM Go.AM.Sym Go.Net Go.Flow
def WG (to dl:Int) (PL:List (Int×Int)) (s:List Flow.Src):List (Int×Int):=s.foldl (fun PL x=>UA PL (x.pl,x.rd) (decide (x.pl≠to)&&decide (x.rd<=dl))) PL
theorem Nsc {to dl:Int} {PL:List (Int×Int)} {s:List Flow.Src} {x:Flow.Src}:WG to dl PL (s++[x])=UA (WG to dl PL s) (x.pl,x.rd) (decide (x.pl≠to)&&decide (x.rd<=dl)):=by unfold WG;rw [List.foldl_append];rfl
theorem Mg {PL:List (Int×Int)} {p:Int×Int} {w:Bool}:(UA PL p w).length<=PL.length+1:=by unfold UA;split<;>simp
theorem Ndq {to dl:Int}:∀{s:List Flow.Src} {PL:List (Int×Int)},(WG to dl PL s).length<=PL.length+s.length
 | [],PL=>by simp [WG]
 | x::s,PL=>by
   have ih:=Ndq (to:=to) (dl:=dl) (s:=s) (PL:=UA PL (x.pl,x.rd) (decide (x.pl≠to)&&decide (x.rd<=dl)))
   have:=Mg (PL:=PL) (p:=(x.pl,x.rd)) (w:=decide (x.pl≠to)&&decide (x.rd<=dl))
   show (WG to dl (UA PL (x.pl,x.rd) (decide (x.pl≠to)&&decide (x.rd<=dl))) s).length<=_
   simp only [Nk];omega
theorem Xa {α:Type} {enc:α->List Value} {e:Nat} {H G:NA} {q:Option Addr} {T:List α} (h:Sl H enc e q T) (d:∀a,q=some a->T≠[]->NC G a.block=NC H a.block):Sl G enc e q T:=by
 cases hp:q with
 | none=>rw [hp] at h;exact h
 | some a=>
   have e1:=d a hp
   rw [hp] at h
   refine ⟨h.1,fun b=>?_⟩
   obtain ⟨ro,c,k1,k2⟩:=h.2 b
   exact ⟨ro,c,by rw [e1 b];exact k1,k2⟩
structure BF (fr:Nat->Value) (ps:Option Addr) (n cs:Nat) (dl:Int) (Bn Bt Bg Bf:Nat):Prop where
 f1:fr 1=.slice ps n cs
 f3:fr 3=Vi dl
 f4:fr 4=Vp Bn
 f6:fr 6=Vp Bt
 f9:fr 9=Vp Bg
 f10:fr 10=Vp Bf
theorem Nz5 [OB] {lim A M Bn Bt Bg Bf:Nat} {X:List Nat} {G:NA} {fr:Nat->Value} {ps pp:Option Addr} {s:List Flow.Src} {cs cp:Nat} {to dl:Int} {vs:List Value} {PL:List (Int×Int)} {K:List AItem} {Q:Value->NA->Prop}
  (I:BF fr ps s.length cs dl Bn Bt Bg Bf) (h:PS A M X G pp cp vs PL) (v:lim<=M) (J:vs.length=6) (hl:PL.length+s.length<2 ^ 29)
  (U:NC G Bg=Vc [Vp A]) (W:NC G Bt=Vc [Vi to]) (H:Bg∈X/\Bt∈X/\∀a,ps=some a->s≠[]->a.block∈X) (hs:Sl G encS 3 ps s)
  (g:fr 25=.slice ps s.length cs) (e:fr 26=Vi s.length) (d:fr 27=Vi 0)
  (V:∀fr' G' N C,BF fr' ps s.length cs dl Bn Bt Bg Bf->PS A M X G' N C vs (WG to dl PL s)->(∀b∈X,NC G' b=NC G b)->G.length<=G'.length->PQ E a39 lim K fr' G' Q) :
  PQ E a39 lim (.code (.loop Nvm)::.inBlock 0::K) fr G Q:=by
 refine NL (fun z:Nat×Option Addr×Nat=>s.length-z.1) (fun z fr G'=>z.1<=s.length/\BF fr ps s.length cs dl Bn Bt Bg Bf/\fr 25=.slice ps s.length cs/\fr 26=Vi s.length/\fr 27=Vi z.1/\PS A M X G' z.2.1 z.2.2 vs (WG to dl PL (s.take z.1))/\(∀b∈X,NC G' b=NC G b)/\G.length<=G'.length) (0,pp,cp)
  ⟨Nx _,I,g,e,d,h,fun b _=>rfl,Ng _⟩ ?_
 rintro ⟨i,y,x⟩ fr G' ⟨hi,I,g,e,d,f,q,aa⟩ F
 simp only at hi d f
 obtain ⟨f1,f3,f4,f6,f9,f10⟩:=I
 rw [NP Nvm.eq_1]
 refine NI ?_
 by_cases l:i<s.length
 case neg=>
  obtain rfl:i=s.length:=by omega
  rw [Of] at f
  simp only [n39,e,d,l,SB,seval,NG,NF]
  refine V _ _ y x ⟨f1,f3,f4,f6,f9,f10⟩ ?_ ?_ (by simp;omega)
  ·rw [Na];exact f
  ·rw [Na];exact q
 have S:=Xa hs fun a Y hn=>q _ (H.2.2 a Y hn)
 have L:=fun Z=>(S.app Z).loadCells OP l
 have P:=QM S l rfl
 have r:=fun Z=>(NZ.refl.app (X:=Z)).cells ((q _ H.1).trans U)
 have t:=fun Z=>(NZ.refl.app (X:=Z)).cells ((q _ H.2.1).trans W)
 have O:IntKind.i64.wrap ((i:Int)+1)=((i+1:Nat):Int):=NS (by omega)
 have T:=ND f.hdr
 have n:lim<=G'.length:=by have:=f.ma;omega
 have w:WG to dl PL (s.take (i+1))=UA (WG to dl PL (s.take i)) ((gt s i).pl,(gt s i).rd) (decide ((gt s i).pl≠to)&&decide ((gt s i).rd<=dl)):=by rw [O0 l,Nsc,OI l]
 have o:(WG to dl PL (s.take i)).length<2 ^ 29:=by
  have:=Ndq (to:=to) (dl:=dl) (s:=s.take i) (PL:=PL)
  rw [N6] at this;omega
 have u:∀Z,PS A M X (G'++Z) y x vs (WG to dl PL (s.take i)):=fun Z=>⟨(NZ.refl.app).cells f.hdr,f.own.app Z,by
  have D:M<G'.length:=by have:=f.ma;omega
  rw [NJ D];exact f.mp,f.ma,f.nd,fun b c=>⟨by have:=(f.sx b c).1;simp;omega,(f.sx b c).2⟩⟩
 by_cases g1:(gt s i).pl=to
 ·rw [show (decide ((gt s i).pl≠to)&&decide ((gt s i).rd<=dl))=false by simp [g1]] at w
  simp only [n39,f6,f9,g,e,d,l,L,P,r,t,OP,SS,Tj,NM,n,Nq g1,SB,seval,NE,NG,NF,place,NB]
  refine Ndp (p:=((gt s i).pl,(gt s i).rd)) (u _) v o J fun R pp2 cp2 j k m=>?_
  refine NI ?_
  simp only [n39,d,O,SB,seval,NG,NF]
  exact F (i+1,pp2,cp2) _ _ ⟨by show i+1<=_;omega,⟨f1,f3,f4,f6,f9,f10⟩,g,e,rfl,by rw [w];first | exact j | (rw [Na];exact j),fun b c=>by first | exact (k b c).trans ((NJ (f.sx b c).1).trans (q b c)) | (rw [Na];exact (k b c).trans ((NJ (f.sx b c).1).trans (q b c))),by simp at m⊢;omega⟩ (by show s.length-(i+1)<s.length-i;omega)
 by_cases B:(gt s i).rd<=dl
 ·rw [show (decide ((gt s i).pl≠to)&&decide ((gt s i).rd<=dl))=true by simp [g1,B]] at w
  simp only [n39,f3,f6,f9,g,e,d,l,L,P,r,t,OP,SS,Tj,NM,n,Nm g1,Nq B,SB,seval,NE,NG,NF,place,NB]
  refine Ndp (p:=((gt s i).pl,(gt s i).rd)) (u _) v o J fun R pp2 cp2 j k m=>?_
  refine NI ?_
  simp only [n39,d,O,SB,seval,NG,NF]
  exact F (i+1,pp2,cp2) _ _ ⟨by show i+1<=_;omega,⟨f1,f3,f4,f6,f9,f10⟩,g,e,rfl,by rw [w];first | exact j | (rw [Na];exact j),fun b c=>by first | exact (k b c).trans ((NJ (f.sx b c).1).trans (q b c)) | (rw [Na];exact (k b c).trans ((NJ (f.sx b c).1).trans (q b c))),by simp at m⊢;omega⟩ (by show s.length-(i+1)<s.length-i;omega)
 ·rw [show (decide ((gt s i).pl≠to)&&decide ((gt s i).rd<=dl))=false by simp [g1,B]] at w
  simp only [n39,f3,f6,f9,g,e,d,l,L,P,r,t,OP,SS,Tj,NM,n,Nm g1,Nm B,SB,seval,NE,NG,NF,place,NB]
  refine Ndp (p:=((gt s i).pl,(gt s i).rd)) (u _) v o J fun R pp2 cp2 j k m=>?_
  refine NI ?_
  simp only [n39,d,O,SB,seval,NG,NF]
  exact F (i+1,pp2,cp2) _ _ ⟨by show i+1<=_;omega,⟨f1,f3,f4,f6,f9,f10⟩,g,e,rfl,by rw [w];first | exact j | (rw [Na];exact j),fun b c=>by first | exact (k b c).trans ((NJ (f.sx b c).1).trans (q b c)) | (rw [Na];exact (k b c).trans ((NJ (f.sx b c).1).trans (q b c))),by simp at m⊢;omega⟩ (by show s.length-(i+1)<s.length-i;omega)
theorem PS.sim {A M:Nat} {X X':List Nat} {G G':NA} {pp:Option Addr} {cp:Nat} {vs:List Value} {PL:List (Int×Int)} (h:PS A M X G pp cp vs PL) (d:∀b,b=A\/b=M\/b∈QC pp->NC G' b=NC G b) (i:∀b∈X',b<G'.length/\(b∈X\/G.length<=b)):PS A M X' G' pp cp vs PL:=by
 have g:=ND h.hdr
 have f:=h.ma
 refine ⟨(d A (.inl rfl)).trans h.hdr,RJ h.own fun a c=>d _ (.inr (.inr (NU.2 ⟨a,c,rfl⟩))),(d M (.inr (.inl rfl))).trans h.mp,f,h.nd,fun b j=>?_⟩
 obtain ⟨h1,h2⟩:=i b j
 rcases h2 with h2 | h2
 ·exact ⟨h1,(h.sx b h2).2⟩
 ·exact ⟨h1,by omega,by omega,fun k=>by obtain ⟨a,c,e⟩:=NU.1 k;have:=(h.own.block c).2;omega⟩
def XG (to:Int) (PL:List (Int×Int)) (C:List (Leg×Int)):List (Int×Int):=C.foldl (fun PL c=>UA (UA PL (c.1.frm,c.2-c.1.cut) true) (c.1.dst,c.2+c.1.mins) (decide (c.1.dst≠to))) PL
theorem Nsd {to:Int} {PL:List (Int×Int)} {C:List (Leg×Int)} {c:Leg×Int}:XG to PL (C++[c])=UA (UA (XG to PL C) (c.1.frm,c.2-c.1.cut) true) (c.1.dst,c.2+c.1.mins) (decide (c.1.dst≠to)):=by unfold XG;rw [List.foldl_append];rfl
theorem Ndu {to:Int}:∀{C:List (Leg×Int)} {PL:List (Int×Int)},(XG to PL C).length<=PL.length+2*C.length
 | [],PL=>by simp [XG]
 | c::C,PL=>by
   have ih:=Ndu (to:=to) (C:=C) (PL:=UA (UA PL (c.1.frm,c.2-c.1.cut) true) (c.1.dst,c.2+c.1.mins) (decide (c.1.dst≠to)))
   have h1:=Mg (PL:=PL) (p:=(c.1.frm,c.2-c.1.cut)) (w:=true)
   have h2:=Mg (PL:=UA PL (c.1.frm,c.2-c.1.cut) true) (p:=(c.1.dst,c.2+c.1.mins)) (w:=decide (c.1.dst≠to))
   show (XG to (UA (UA PL (c.1.frm,c.2-c.1.cut) true) (c.1.dst,c.2+c.1.mins) (decide (c.1.dst≠to))) C).length<=_
   simp only [Nk];omega
theorem Nxv [OB] {lim A M Bn Bt Bg Bf Bd2 Bn2 Bt2 np cpn cl:Nat} {X:List Nat} {G:NA} {fr:Nat->Value} {ps pp pp2 pl:Option Addr} {ns cs cp:Nat} {to dl:Int} {vs:List Value} {PL:List (Int×Int)} {L:List Leg} {K:List AItem} {Q:Value->NA->Prop}
  (hf:BF fr ps ns cs dl Bn Bt Bg Bf) (h:PS A M X G pp cp vs PL) (W:lim<=M) (hv:vs.length=6) (hl:PL.length+2*(NN L to dl).length<2 ^ 28)
  (hG:NC G Bg=Vc [Vp A]) (hT:NC G Bt=Vc [Vi to]) (F:Bg∈X/\Bt∈X)
  (ac:fr 52=.func (.func 74) #[] #[Vp Bd2,Vp Bn2,Vp Bt2])
  (ah:NC G Bd2=Vc [Vi dl]) (ai:NC G Bn2=Vc (netV pp2 np cpn pl L.length cl)) (aj:NC G Bt2=Vc [Vi to]) (hs:Sl G encL 8 pl L) (hK:Bd2∈X/\Bn2∈X/\Bt2∈X/\∀a,pl=some a->L≠[]->a.block∈X) (hF:∀l∈L,Fine l) (am:L.length<2 ^ 40) (aq:0<=dl) (au:dl<=OQ)
  (hR:∀G' f c,PS A M X G' f c vs (XG to PL (NN L to dl))->(∀b∈X,NC G' b=NC G b)->NC G' G.length=.dfr->G.length+2<=G'.length->PQ E a39 lim (K++[.mark G.length]) fr G' Q) :
  PQ E a39 lim (.code (.rangeF (t 52) [53,54] Xl Xk)::K) fr G Q:=by
 have ag:=ND h.hdr
 have br:=h.ma
 have bl:lim<=G.length:=by omega
 have mt:OQ=1051898399:=rfl
 obtain ⟨f1,f3,f4,f6,f9,f10⟩:=hf
 have S:NE (ev fr (t 52)) [.func (.yield (G.length+1)) #[] #[]] = some (.inl 74,[.func (.yield (G.length+1)) #[] #[],Vp Bd2,Vp Bn2,Vp Bt2]):=by rw [show ev fr (t 52)=_ from ac];rfl
 rw [Wn S]
 have g:=h.sx
 have k:∀b∈X,NC (G++[Blk.dfr,.loop ⟨0,none,fr,155,[53,54],Xl,Xk⟩]) b=NC G b:=fun b hb=>NJ (g b hb).1
 refine Xq (lim:=lim) (Y:=G.length+1) (Bd:=Bd2) (Bn:=Bn2) (Bt:=Bt2) (np:=np) (pp:=pp2) (pl:=pl) (cp:=cpn) (cl:=cl) (L:=L) (to:=to) (dl:=dl)
  (fun rest q G'=>∃done f c,done++rest=NN L to dl/\PS A M (G.length::(G.length+1)::(X++q)) G' f c vs (XG to PL done)/\NC G' G.length=.dfr/\NC G' (G.length+1)=.loop ⟨0,none,fr,155,[53,54],Xl,Xk⟩/\(∀b∈X,NC G' b=NC G b)/\G.length+2<=G'.length) X ?_ ?_ ((k _ hK.1).trans ah) ((k _ hK.2.1).trans ai) ((k _ hK.2.2.1).trans aj) (hs.app _) hK ?_ hF am aq au (by simp;omega) ?_ ?_
 ·rintro rest q bf H H' ⟨done,f,c,e1,e2,e3,r,s,e6⟩ m ao
  have V:=m.len
  have n:=ND e2.hdr
  refine ⟨done,f,c,e1,e2.sim (fun b hb=>?_) (fun b hb=>?_),m.get e3 (by omega) (by simp),m.get r (by omega) (by simp),fun b hb=>?_,by omega⟩
  ·rcases hb with rfl | rfl | hb
   ·exact m.other _ n (by simp)
   ·exact m.other _ (by omega) (by simp)
   ·obtain ⟨a,P,rfl⟩:=NU.1 hb
    exact m.other _ (e2.own.block P).2 (by simp)
  ·simp only [Nu,Nv] at hb
   rcases hb with rfl | rfl | hb | hb
   ·exact ⟨by omega,.inl (by simp)⟩
   ·exact ⟨by omega,.inl (by simp)⟩
   ·have:=(g b hb).1
    exact ⟨by omega,.inl (by simp [hb])⟩
   ·rcases ao b hb with h1 | ⟨h1,h2⟩
    ·have:=(e2.sx b (by simp [h1])).1
     exact ⟨by omega,.inl (by simp [h1])⟩
    ·exact ⟨h2,.inr h1⟩
  ·have:=(g b hb).1
   rw [m.other b (by omega) (by simp)];exact s b hb
 ·rintro x rest q G' bc hx bh ⟨done,f,c,e1,e2,e3,r,s,e6⟩
  have bm:=e2.own
  obtain ⟨a2,_,d,_,bo,bp,bq⟩:=QR hx
  have ak:=hF _ a2
  have N:=ak
  unfold Fine at N
  have n:=ND e2.hdr
  have be:done.length<(NN L to dl).length:=by rw [<-e1,Nb,Nk];omega
  have a0:(XG to PL done).length<2 ^ 28:=by have:=Ndu (to:=to) (C:=done) (PL:=PL);omega
  rw [MV (x:=⟨0,none,fr,155,[53,54],Xl,Xk⟩) r (by omega) rfl rfl]
  rw [show Tc fr [53,54] [.agg (encL x.1).toArray,.agg #[Vi x.2,Vi (x.2+x.1.mins)]] = upd (upd fr 53 (.agg (encL x.1).toArray)) 54 (.agg #[Vi x.2,Vi (x.2+x.1.mins)]) from rfl]
  rw [NP Xl.eq_1]
  refine NI ?_
  obtain ⟨G1,e7,h7,D⟩:=OO (G:=G') (R:=G.length+1) (by omega) (.loop ⟨1,none,fr,155,[53,54],Xl,Xk⟩)
  have gY:=fun X=>(NZ.refl.app (X:=X)).get' r (by omega)
  have U:lim<=G'.length:=by omega
  simp only [NW,NM,U,gY,e7,show lim<=G.length+1 by omega,SB,seval,NG,place,NB]
  rw [NP Xk.eq_1]
  have I:∀b,b≠G.length+1->∀Z,b<G'.length->NC (G1++Z) b=NC G' b:=fun b hb Z ap=>by rw [NJ (by rw [D.len];exact ap)];exact D.other b hb
  have z:=e2.sx (G.length+1) (by simp)
  have P1:PS A M (G'.length::(G'.length+1)::(G.length::(G.length+1)::(X++q))) (G1++[Vc (encL x.1),Vc [Vi x.2,Vi (x.2+x.1.mins)]]) f c vs (XG to PL done):=by
   refine e2.sim (fun b hb=>?_) (fun b hb=>?_)
   ·rcases hb with rfl | rfl | hb
    ·exact I _ (fun e=>z.2.1 e.symm) _ n
    ·exact I _ (fun e=>z.2.2.1 e.symm) _ (by omega)
    ·obtain ⟨a,P,rfl⟩:=NU.1 hb
     exact I _ (fun e=>z.2.2.2 (e▸hb)) _ (e2.own.block P).2
   ·have bd:=D.len
    rw [Nu,Nu] at hb
    rcases hb with rfl | rfl | hb
    ·exact ⟨by simp;omega,.inr (Ng _)⟩
    ·exact ⟨by simp;omega,.inr (by omega)⟩
    ·have:=(e2.sx b hb).1
     exact ⟨by simp;omega,.inl hb⟩
  have T:∀Z,NC (G1++Z) Bg=Vc [Vp A]:=fun Z=>by
   have:=(g _ F.1).1
   rw [I _ (by omega) _ (by omega),s _ F.1];exact hG
  have c5:∀X:NA,NC (G1++X) G'.length=X.getD 0 .dead:=(VA D.len).2.2.1
  have c6:∀(X:NA) (j:Nat),NC (G1++X) (G'.length+j)=X.getD j .dead:=(VA D.len).2.1
  have wc:IntKind.i64.wrap (x.2-x.1.cut)=x.2-x.1.cut:=NY (by omega) (by omega)
  simp only [f9,QB,RZ,T,c5,c6,wc,SB,seval,NE,NG,NF]
  refine Ndp (p:=(x.1.frm,x.2-x.1.cut)) P1 W (by omega) hv fun J pp2 cp2 an o ay=>?_
  have av:∀Z,NC (J++Z) Bg=Vc [Vp A]:=fun Z=>(NZ.refl.app).cells ((o _ (by simp [F.1])).trans (T _))
  have a5:∀Z,NC (J++Z) Bt=Vc [Vi to]:=fun Z=>(NZ.refl.app).cells ((o _ (by simp [F.2])).trans (by
   have:=(g _ F.2).1
   rw [I _ (by omega) _ (by omega),s _ F.2];exact hT))
  have ad:∀Z,NC (J++Z) G'.length=Vc (encL x.1):=fun Z=>(NZ.refl.app).cells ((o _ (by simp)).trans (by rw [c5];rfl))
  have ae:∀Z,NC (J++Z) (G'.length+1)=Vc [Vi x.2,Vi (x.2+x.1.mins)]:=fun Z=>(NZ.refl.app).cells ((o _ (by simp)).trans (by rw [c6];rfl))
  have a1:=Mg (PL:=XG to PL done) (p:=(x.1.frm,x.2-x.1.cut)) (w:=true)
  refine NI ?_
  simp only [f6,f9,QU,av,a5,ad,ae,SB,seval,NE,NG,NF]
  have O:PS A M (G'.length::(G'.length+1)::(G.length::(G.length+1)::(X++q))) (J++[]) pp2 cp2 vs (UA (XG to PL done) (x.1.frm,x.2-x.1.cut) true):=by rw [Na];exact an
  refine Ndp (p:=(x.1.dst,x.2+x.1.mins)) O W (by omega) hv fun G3 ba aa u aw az=>?_
  have kk:∀b∈(G'.length::(G'.length+1)::(G.length::(G.length+1)::(X++q))),NC G3 b=NC (G1++[Vc (encL x.1),Vc [Vi x.2,Vi (x.2+x.1.mins)]]) b:=fun b hb=>by rw [aw b hb,Na,o b hb]
  have k0:∀b∈(G.length::(G.length+1)::(X++q)),b≠G.length+1->NC G3 b=NC G' b:=fun b hb a4=>by
   rw [kk b (Ni _ (Ni _ hb)),I b a4 _ (e2.sx b hb).1]
  have y3:NC G3 (G.length+1)=.loop ⟨1,none,fr,155,[53,54],Xl,Xk⟩:=by rw [kk _ (by simp),NJ (by rw [D.len];omega)];exact h7
  simp only [Na] at az
  simp only [Nb,Nk,Nl,D.len] at ay
  obtain ⟨G4,e8,h8,m8⟩:=OO (G:=G3) (R:=G.length+1) (by omega) (.loop ⟨0,none,fr,155,[53,54],Xl,Xk⟩)
  have bb:=fun X=>(NZ.refl.app (X:=X)).get' y3 (by omega)
  refine NI ?_
  simp only [bb,e8,show lim<=G.length+1 by omega,SB,seval]
  have bg:=m8.len
  have B:=u.sx (G.length+1) (by simp)
  have i:∀j∈(G.length::(G.length+1)::(X++q)),NC (G4++[]) j=NC G' j:=fun j v=>by
   rw [Na]
   by_cases y:j=G.length+1
   ·subst y;rw [h8,r]
   ·rw [m8.other j y];exact k0 j v y
  refine ⟨⟨done++[x],ba,aa,by rw [Nr];exact e1, ?_,(i _ (by simp)).trans e3,(i _ (by simp)).trans r,fun b hb=>(i b (by simp [hb])).trans (s b hb),by omega⟩,by omega,fun j v=>i j (by simp [v])⟩
  rw [Nsd]
  refine u.sim (fun b hb=>?_) (fun b hb=>?_)
  ·rw [Na]
   refine m8.other b ?_
   rcases hb with rfl | rfl | hb
   ·exact fun e=>B.2.1 e.symm
   ·exact fun e=>B.2.2.1 e.symm
   ·exact fun e=>B.2.2.2 (e▸hb)
  ·have:=(u.sx b (Ni _ (Ni _ hb))).1
   exact ⟨by simp;omega,.inl (Ni _ (Ni _ hb))⟩
 ·intro j v;have:=(g j v).1;simp;omega
 ·refine ⟨[],pp,cp,rfl,h.sim (fun b hb=>?_) (fun b hb=>?_),NQ,OM,k,by simp⟩
  ·rcases hb with rfl | rfl | hb
   ·exact NJ ag
   ·exact NJ (by omega)
   ·obtain ⟨a,P,rfl⟩:=NU.1 hb
    exact NJ (h.own.block P).2
  ·simp only [Nu,Nv,or_self] at hb
   rcases hb with rfl | rfl | hb
   ·exact ⟨by simp,.inr (by omega)⟩
   ·exact ⟨by simp,.inr (by omega)⟩
   ·have:=(g b hb).1
    exact ⟨by simp;omega,.inl hb⟩
 ·rintro G' ⟨done,f,c,e1,e2,e3,r,s,e6⟩ bk V
  rw [Na] at e1
  subst e1
  rw [Zj r,Nhb]
  show PQ E a39 lim (K++[.mark G.length]) fr _ _
  have m:Mut G' (G'.set (G.length+1) .dead) (G.length+1):=⟨by simp,fun j v=>OU v⟩
  refine hR _ f c (e2.sim (fun b hb=>m.other b ?_) fun b hb=>?_) (fun b hb=>?_) ((m.other _ (by omega)).trans e3) (by rw [m.len];omega)
  ·have z:=e2.sx (G.length+1) (by simp)
   rcases hb with rfl | rfl | hb
   ·exact fun e=>z.2.1 e.symm
   ·exact fun e=>z.2.2.1 e.symm
   ·exact fun e=>z.2.2.2 (e▸hb)
  ·have:=(e2.sx b (by simp [hb])).1
   exact ⟨by rw [m.len];exact this,.inl (by simp [hb])⟩
  ·have:=(g b hb).1
   rw [m.other b (by omega)];exact s b hb
theorem Ncp {SL:List (Int×Int)} {es:List ((Int×Int)×Int)} {to:Int} {p:Int×Int} (h:No4 SL es) (a:p.1≠to->p∈SL):(if p.1=to then 1 else (TN p es).getD 0)=((PV SL to p.1 p.2:Nat):Int):=by
 by_cases hp:p.1=to
 ·rw [Nh hp];unfold PV;rw [Nh hp];rfl
 ·obtain ⟨e1,e2,e3⟩:=V9 (PL:=SL) (to:=to) (p:=p.1) (t:=p.2) hp (a hp)
  rw [Nf hp,e1]
  have:=h _ e2
  rw [e3] at this
  rw [show TN p es=_ from this];rfl
theorem Ney {PL:List (Int×Int)} {to dl:Int} {x:Flow.Src}:∀{s:List Flow.Src},Sg PL to dl (s++[x])=Sg PL to dl s++if x.rd<=dl then [⟨PV PL to x.pl x.rd,0,x.gr,0⟩] else []
 | []=>by simp only [Oa,Sg]
 | y::s=>by
   have ih:=Ney (PL:=PL) (to:=to) (dl:=dl) (x:=x) (s:=s)
   rw [Oe,Sg,Sg,ih]
   split<;>simp
theorem Z8 {PL:List (Int×Int)} {to dl:Int}:∀{s:List Flow.Src},(Sg PL to dl s).length<=s.length
 | []=>by simp [Sg]
 | y::s=>by
   have ih:=Z8 (PL:=PL) (to:=to) (dl:=dl) (s:=s)
   rw [Sg]
   split<;>simp<;>omega
theorem MB {SL:List (Int×Int)} {to p t:Int} (h:p≠to->(p,t)∈SL):PV SL to p t<SL.length+2:=by
 by_cases hp:p=to
 ·unfold PV;rw [Nh hp];omega
 ·obtain ⟨e1,e2,e3⟩:=V9 (PL:=SL) hp (h hp)
  omega
theorem JS.app {A Bo:Nat} {X:List Nat} {G:NA} {vp vm v4 v5 vw vmost:Value} {pa:Option Addr} {ca co:Nat} {ols:List Yn} {out:List (List Nat)} {l:List Pr} (h:JS A Bo X G vp vm v4 v5 vw vmost pa ca co ols out l) (Z:NA):JS A Bo X (G++Z) vp vm v4 v5 vw vmost pa ca co ols out l:=
 h.keep (fun b _ a=>NJ a) (by simp)
theorem Nv8 [OB] {lim A M Bo Bn Bt Bg Bf:Nat} {X:List Nat} {G:NA} {fr:Nat->Value} {ps pa:Option Addr} {s:List Flow.Src} {cs ca co:Nat} {to dl:Int} {vp v4 v5 vw vmost:Value} {ols:List Yn} {out:List (List Nat)} {l:List Pr} {SL:List (Int×Int)} {es:List ((Int×Int)×Int)} {K:List AItem} {Q:Value->NA->Prop}
  (hf:BF fr ps s.length cs dl Bn Bt Bg Bf) (h:JS A Bo X G vp (.map (some M)) v4 v5 vw vmost pa ca co ols out l) (aj:lim<=A) (hM:NC G M=.map (Sw kM vI es)) (au:M<A) (P:No4 SL es)
  (D:∀x∈s,x.rd<=dl->x.pl≠to->(x.pl,x.rd)∈SL) (hO:OutOk l out) (am:out.length=SL.length+2) (ak:∀v,(gt out v).length<=2*l.length) (ay:l.length+s.length<2 ^ 27)
  (hG:NC G Bg=Vc [Vp A]) (hT:NC G Bt=Vc [Vi to]) (ae:NC G Bf=Vc [.func (.func 58) #[] #[Vp Bt,Vp Bg]])
  (w:(Bg<Bo/\Bg≠A)/\(Bt<Bo/\Bt≠A)/\(Bf<Bo/\Bf≠A)/\∀a,ps=some a->s≠[]->a.block<Bo/\a.block≠A) (hs:Sl G encS 3 ps s)
  (n:fr 78=.slice ps s.length cs) (e:fr 79=Vi s.length) (g:fr 80=Vi 0)
  (hR:∀fr' G' an ac R k,BF fr' ps s.length cs dl Bn Bt Bg Bf->JS A Bo X G' vp (.map (some M)) v4 v5 vw vmost an ac co R k (l++Sg SL to dl s)->OutOk (l++Sg SL to dl s) k->k.length=SL.length+2->(∀v,(gt k v).length<=2*(l++Sg SL to dl s).length)->(∀b,b<Bo->b≠A->NC G' b=NC G b)->G.length<=G'.length->PQ E a39 lim K fr' G' Q) :
  PQ E a39 lim (.code (.loop Nvn)::.inBlock 4::K) fr G Q:=by
 have av:=h.ab
 refine NL (fun z:Nat×(Option Addr×Nat)×(List Yn×List (List Nat))=>s.length-z.1) (fun z fr G'=>z.1<=s.length/\BF fr ps s.length cs dl Bn Bt Bg Bf/\fr 78=.slice ps s.length cs/\fr 79=Vi s.length/\fr 80=Vi z.1/\JS A Bo X G' vp (.map (some M)) v4 v5 vw vmost z.2.1.1 z.2.1.2 co z.2.2.1 z.2.2.2 (l++Sg SL to dl (s.take z.1))/\OutOk (l++Sg SL to dl (s.take z.1)) z.2.2.2/\z.2.2.2.length=SL.length+2/\(∀v,(gt z.2.2.2 v).length<=2*(l++Sg SL to dl (s.take z.1)).length)/\(∀b,b<Bo->b≠A->NC G' b=NC G b)/\G.length<=G'.length) (0,(pa,ca),(ols,out))
  ⟨Nx _,hf,n,e,g,by rw [P8,Sg,Na];exact h,by rw [P8,Sg,Na];exact hO,am,by rw [P8,Sg,Na];exact ak,fun b _ _=>rfl,Ng _⟩ ?_
 rintro ⟨i,⟨T,N⟩,⟨F,m⟩⟩ fr G' ⟨hi,hf,n,e,g,H,o,j,c,y,aw⟩ hN
 simp only at hi g H o j c
 obtain ⟨f1,f3,f4,f6,f9,f10⟩:=hf
 rw [NP Nvn.eq_1]
 refine NI ?_
 by_cases d:i<s.length
 case neg=>
  obtain rfl:i=s.length:=by omega
  rw [Of] at H o c
  simp only [n39,e,g,d,SB,seval,NG,NF]
  exact hR _ _ T N F m ⟨f1,f3,f4,f6,f9,f10⟩ (by rw [Na];exact H) o j c (by rw [Na];exact y) (by simp;omega)
 have sG:=Xa hs fun a ha hn=>y _ (w.2.2.2 a ha hn).1 (w.2.2.2 a ha hn).2
 have lS:=fun Z=>(sG.app Z).loadCells OP d
 have xS:=QM sG d rfl
 have aq:=ND H.os.ou
 have L:=fun Z=>(NZ.refl.app (X:=Z)).cells ((y _ w.1.1 w.1.2).trans hG)
 have aa:=fun Z=>(NZ.refl.app (X:=Z)).cells ((y _ w.2.1.1 w.2.1.2).trans hT)
 have Y:=fun Z=>(NZ.refl.app (X:=Z)).cells ((y _ w.2.2.1.1 w.2.2.1.2).trans ae)
 have W:=fun Z=>(NZ.refl.app (X:=Z)).cells H.hdr
 have U:NC G' M=.map (Sw kM vI es):=(y M (by omega) (by omega)).trans hM
 have V:∀Z,NC (G'++Z) M=.map (Sw kM vI es):=fun Z=>by rw [NJ (by omega)];exact U
 have w1:IntKind.i64.wrap ((i:Int)+1)=((i+1:Nat):Int):=NS (by omega)
 have B:lim<=G'.length:=by omega
 have C:=PW d
 have I:Sg SL to dl (s.take (i+1))=Sg SL to dl (s.take i)++if (gt s i).rd<=dl then [⟨PV SL to (gt s i).pl (gt s i).rd,0,(gt s i).gr,0⟩] else []:=by rw [O0 d,Ney,OI d]
 have ap:(l++Sg SL to dl (s.take i)).length<2 ^ 27:=by
  have:=Z8 (PL:=SL) (to:=to) (dl:=dl) (s:=s.take i)
  rw [N6] at this
  rw [Nb];omega
 by_cases J:(gt s i).rd<=dl
 ·rw [Nh J] at I
  have q:=fun (mp:Bool) (lim:Nat) (Z:NA) (Q:Value->NA->Prop)=>Ngt (mp:=mp) (lim:=lim) (p:=((gt s i).pl,(gt s i).rd)) (Q:=Q) (aa Z) (L Z) (W Z) (V Z)
  have O:=Ncp (to:=to) (p:=((gt s i).pl,(gt s i).rd)) P (D _ C J)
  simp only at O
  simp only [O] at q
  have az:=MB (to:=to) (p:=(gt s i).pl) (t:=(gt s i).rd) (D _ C J)
  simp only [n39,f3,f9,f10,n,e,g,d,lS,xS,L,Y,OP,SS,Tj,Vs,NM,B,Nq J,q,SB,seval,NE,NG,NF,place,NB]
  refine Ng5 (f:=0) (t:=PV SL to (gt s i).pl (gt s i).rd) (H.app _) aj (by omega) (by omega) (fun v=>by have:=c v;omega) (by omega) fun G2 ao ad S ag ah ai=>?_
  simp only [n39,g,w1,SB,seval,NG,NF]
  have ec:l++Sg SL to dl (s.take (i+1))=(l++Sg SL to dl (s.take i))++[⟨PV SL to (gt s i).pl (gt s i).rd,0,(gt s i).gr,0⟩]:=by rw [I,Nr]
  exact hN (i+1,(ao,ad),(S,Ve m 0 (PV SL to (gt s i).pl (gt s i).rd) (2*(l++Sg SL to dl (s.take i)).length))) _ _ ⟨by show i+1<=_;omega,⟨f1,f3,f4,f6,f9,f10⟩,n,e,rfl,by rw [ec];exact ag,by rw [ec];exact o.join (by omega) (by omega),by show (Ve _ _ _ _).length=_;rw [WR];exact j,fun v=>by
   show (gt (Ve _ _ _ _) v).length<=_
   rw [ec,Nb (as:=l++Sg SL to dl (s.take i))]
   have:=XW (out:=m) (f:=0) (t:=PV SL to (gt s i).pl (gt s i).rd) (i:=2*(l++Sg SL to dl (s.take i)).length) (v:=v) (by omega) (by omega)
   have:=c v
   simp only [Nk,Nl];omega,fun b r u=>by rw [ah b (.inl ⟨r,u⟩),NJ (by omega)];exact y b r u,by simp at ai;omega⟩ (by show s.length-(i+1)<s.length-i;omega)
 ·rw [Nf J,Na] at I
  simp only [n39,f3,n,e,g,d,lS,xS,OP,Tj,NM,B,Nm J,w1,SB,seval,NG,NF,place,NB]
  exact hN (i+1,(T,N),(F,m)) _ _ ⟨by show i+1<=_;omega,⟨f1,f3,f4,f6,f9,f10⟩,n,e,rfl,by rw [I];exact H.app _,by rw [I];exact o,j,by rw [I];exact c,fun b r u=>by rw [NJ (by omega)];exact y b r u,by simp;omega⟩ (by show s.length-(i+1)<s.length-i;omega)
def Vr (w:(Leg×Int)×Nat):List Value:=encL w.1.1++[Vi w.1.2,Vi (w.1.2+w.1.1.mins),Vi w.2]
theorem SK (w:(Leg×Int)×Nat):(Vr w).length=11:=id rfl
def Tz:Nat->List (Leg×Int)->List ((Leg×Int)×Nat)
 | _,[]=>[]
 | n,c::C=>(c,n)::Tz (n+2) C
theorem Nbp {c:Leg×Int}:∀{C:List (Leg×Int)} {n:Nat},Tz n (C++[c])=Tz n C++[(c,n+2*C.length)]
 | [],n=>by simp [Tz]
 | d::C,n=>by
   rw [Oe,Tz,Nbp,Tz,Oe,Nk]
   congr 4;omega
theorem WI:∀{C:List (Leg×Int)} {n:Nat},(Tz n C).length=C.length
 | [],n=>rfl
 | d::C,n=>by rw [Tz,Nk,WI,Nk]
theorem No8 {PL:List (Int×Int)} {to:Int} {C:List (Leg×Int)} {c:Leg×Int}:Tu PL to (C++[c])=Tu PL to C++[⟨PV PL to c.1.dst (c.2+c.1.mins),PV PL to c.1.frm (c.2-c.1.cut),c.1.grams,0⟩]:=by unfold Tu;rw [Pi];rfl
theorem WJ {PL:List (Int×Int)} {to:Int} {C:List (Leg×Int)}:(Tu PL to C).length=C.length:=by unfold Tu;rw [On]
theorem JS.sim {A Bo:Nat} {X X':List Nat} {G G':NA} {vp vm v4 v5 vw i vmost c:Value} {pa:Option Addr} {ca co:Nat} {ols:List Yn} {out:List (List Nat)} {l:List Pr} (h:JS A Bo X G vp vm v4 v5 vw vmost pa ca co ols out l) (r:NC G' A=Vc [vp,vm,.slice pa (2*l.length) ca,.slice (Sa Bo) out.length co,v4,v5,i,c]) (m:∀b,Bo<=b->b<G.length->b∉X->NC G' b=NC G b) (hl:G.length<=G'.length) (p:∀b∈X',b<G'.length/\(b∈X\/G.length<=b\/(b<Bo/\b≠A))):JS A Bo X' G' vp vm v4 v5 i c pa ca co ols out l:=by
 have s:=ND h.hdr
 have j:=ND h.os.ou
 have k:=h.ab
 have h1:∀u a,u<out.length->(gt ols u).1=some a->NC G' a.block=NC G a.block:=fun u a g d=>by
  have:=(h.os.us u g).1.block d
  exact m _ (by omega) this.2 fun f=>(h.os.sy _ (N1 _ f)).2.2 u a g d rfl
 have h2:∀a,pa=some a->NC G' a.block=NC G a.block:=fun a d=>by
  have:=h.ar.block d
  exact m _ (by omega) this.2 fun f=>(h.ax _ f).1 (NU.2 ⟨a,d,rfl⟩)
 have q:NC G' Bo=NC G Bo:=m Bo (Ng _) j fun f=>(h.os.sy _ (N1 _ f)).2.1 rfl
 refine ⟨r,RJ h.ar h2,(h.os.sim q h1 hl).withY fun b hb=>?_,k,fun b hb=>?_⟩
 ·rcases Nv.1 hb with hb | hb
  ·obtain ⟨t,n,o⟩:=h.os.sy b (Nz _ hb)
   exact ⟨by omega,n,o⟩
  ·obtain ⟨g1,g2⟩:=p b hb
   rcases g2 with g2 | g2 | g2
   ·obtain ⟨t,n,o⟩:=h.os.sy b (N1 _ g2)
    exact ⟨g1,n,o⟩
   ·exact ⟨g1,by omega,fun u a g d=>by have:=(h.os.us u g).1.block d;omega⟩
   ·exact ⟨g1,by omega,fun u a g d=>by have:=(h.os.us u g).1.block d;omega⟩
 ·obtain ⟨g1,g2⟩:=p b hb
  rcases g2 with g2 | g2 | g2
  ·exact h.ax b g2
  ·exact ⟨fun f=>by obtain ⟨a,d,e⟩:=NU.1 f;have:=(h.ar.block d).2;omega,by omega⟩
  ·exact ⟨fun f=>by obtain ⟨a,d,e⟩:=NU.1 f;have:=(h.ar.block d).1;omega,g2.2⟩
theorem Nq5 [OB] {lim A M Bo Bn Bt Bg Bf Bd2 Bn2 Bt2 np cpn cl:Nat} {X Kk:List Nat} {G:NA} {fr:Nat->Value} {ps pp2 pl pa:Option Addr} {ns cs ca co:Nat} {to dl:Int} {vp v4 v5 vmost:Value} {ols:List Yn} {out:List (List Nat)} {l:List Pr} {SL:List (Int×Int)} {es:List ((Int×Int)×Int)} {L:List Leg} {K:List AItem} {Q:Value->NA->Prop}
  (hf:BF fr ps ns cs dl Bn Bt Bg Bf) (h:JS A Bo X G vp (.map (some M)) v4 v5 Vz vmost pa ca co ols out l) (a5:lim<=A) (hM:NC G M=.map (Sw kM vI es)) (dx:M<A) (aa:No4 SL es)
  (P:∀c∈NN L to dl,(c.1.frm≠to/\(c.1.frm,c.2-c.1.cut)∈SL)/\(c.1.dst≠to->(c.1.dst,c.2+c.1.mins)∈SL)) (hO:OutOk l out) (da:out.length=SL.length+2) (c0:∀v,(gt out v).length<=2*l.length) (d6:l.length+(NN L to dl).length<2 ^ 27)
  (hG:NC G Bg=Vc [Vp A]) (hT:NC G Bt=Vc [Vi to]) (cf:NC G Bf=Vc [.func (.func 58) #[] #[Vp Bt,Vp Bg]])
  (hb:(Bg<Bo/\Bg≠A)/\(Bt<Bo/\Bt≠A)/\(Bf<Bo/\Bf≠A)) (ae:∀b∈Kk,b<G.length/\((b<Bo/\b≠A)\/b∈X))
  (aq:fr 103=.func (.func 74) #[] #[Vp Bd2,Vp Bn2,Vp Bt2])
  (b4:NC G Bd2=Vc [Vi dl]) (b5:NC G Bn2=Vc (netV pp2 np cpn pl L.length cl)) (ce:NC G Bt2=Vc [Vi to]) (hs:Sl G encL 8 pl L) (hK:Bd2∈Kk/\Bn2∈Kk/\Bt2∈Kk/\∀a,pl=some a->L≠[]->a.block∈Kk) (hF:∀l∈L,Fine l) (ci:L.length<2 ^ 40) (cm:0<=dl) (cr:dl<=OQ)
  (hR:∀G' s r n g pw cw,JS A Bo (QC pw++X) G' vp (.map (some M)) v4 v5 (.slice pw (NN L to dl).length cw) vmost s r co n g (l++Tu SL to (NN L to dl))->OutOk (l++Tu SL to (NN L to dl)) g->g.length=SL.length+2->(∀v,(gt g v).length<=2*(l++Tu SL to (NN L to dl)).length)->Own (G.length+2) G' Vr 11 pw cw (Tz (2*l.length) (NN L to dl))->(∀b,b<G.length->(b<Bo/\b≠A)\/b∈X->NC G' b=NC G b)->G.length+2<=G'.length->NC G' G.length=.dfr->PQ E a39 lim (K++[.mark G.length]) fr G' Q) :
  PQ E a39 lim (.code (.rangeF (t 103) [104,105] Wz Wy)::K) fr G Q:=by
 have b0:=ND h.hdr
 have dv:=ND h.os.ou
 have dy:=h.ab
 have d5:lim<=G.length:=by omega
 have mt:OQ=1051898399:=rfl
 obtain ⟨f1,f3,f4,f6,f9,f10⟩:=hf
 have a1:NE (ev fr (t 103)) [.func (.yield (G.length+1)) #[] #[]] = some (.inl 74,[.func (.yield (G.length+1)) #[] #[],Vp Bd2,Vp Bn2,Vp Bt2]):=by rw [show ev fr (t 103)=_ from aq];rfl
 rw [Wn a1]
 have J:∀b,b<G.length->NC (G++[Blk.dfr,.loop ⟨0,none,fr,155,[104,105],Wz,Wy⟩]) b=NC G b:=fun b hb=>NJ hb
 have N:∀b∈Kk,NC (G++[Blk.dfr,.loop ⟨0,none,fr,155,[104,105],Wz,Wy⟩]) b=NC G b:=fun b hb=>NJ (ae b hb).1
 refine Xq (lim:=lim) (Y:=G.length+1) (Bd:=Bd2) (Bn:=Bn2) (Bt:=Bt2) (np:=np) (pp:=pp2) (pl:=pl) (cp:=cpn) (cl:=cl) (L:=L) (to:=to) (dl:=dl)
  (fun rest Xr G'=>∃done s r n g pw cw,done++rest=NN L to dl/\JS A Bo (G.length::(G.length+1)::(QC pw++(X++Xr))) G' vp (.map (some M)) v4 v5 (.slice pw done.length cw) vmost s r co n g (l++Tu SL to done)/\OutOk (l++Tu SL to done) g/\g.length=SL.length+2/\(∀v,(gt g v).length<=2*(l++Tu SL to done).length)/\Own (G.length+2) G' Vr 11 pw cw (Tz (2*l.length) done)/\(∀b∈QC pw,b∉Xr)/\NC G' G.length=.dfr/\NC G' (G.length+1)=.loop ⟨0,none,fr,155,[104,105],Wz,Wy⟩/\(∀b,b<G.length->(b<Bo/\b≠A)\/b∈X->NC G' b=NC G b)/\G.length+2<=G'.length) Kk ?_ ?_ ((N _ hK.1).trans b4) ((N _ hK.2.1).trans b5) ((N _ hK.2.2.1).trans ce) (hs.app _) hK ?_ hF ci cm cr (by simp;omega) ?_ ?_
 ·rintro rest Xr dq H H' ⟨done,s,r,n,g,pw,cw,e1,e2,e3,e4,e5,e6,e7,e8,e9,e10,e11⟩ P aw
  have V:=P.len
  have y:=ND e2.hdr
  have bg:∀b∈QC pw,b<H.length:=fun b hb=>by obtain ⟨a,u,rfl⟩:=NU.1 hb;exact (e6.block u).2
  refine ⟨done,s,r,n,g,pw,cw,e1,e2.sim (P.cells e2.hdr (by simp)) (fun b k hb2 _=>P.other _ hb2 (by simp)) V (fun b hb=>?_),e3,e4,e5,e6.chg P (by simp),fun b hb B=>?_,P.get e8 (by omega) (by simp),P.get e9 (by omega) (by simp),fun b k hb2=>by rw [P.other b (by omega) (by simp)];exact e10 b k hb2,by omega⟩
  ·simp only [Nu,Nv] at hb
   rcases hb with rfl | rfl | hb | hb | hb
   ·exact ⟨by omega,.inl (by simp)⟩
   ·exact ⟨by omega,.inl (by simp)⟩
   ·exact ⟨by have:=bg b hb;omega,.inl (by simp [hb])⟩
   ·have:=(e2.os.sy b (by simp [hb])).1
    exact ⟨by omega,.inl (by simp [hb])⟩
   ·rcases aw b hb with h1 | ⟨h1,h2⟩
    ·have:=(e2.os.sy b (by simp [h1])).1
     exact ⟨by omega,.inl (by simp [h1])⟩
    ·exact ⟨h2,.inr (.inl h1)⟩
  ·rcases aw b B with h1 | ⟨h1,h2⟩
   ·exact e7 b hb h1
   ·have:=bg b hb;omega
 ·rintro x rest Xr G' dm hx dw ⟨done,s,r,n,g,pw,cw,e1,e2,e3,e4,e5,e6,e7,e8,e9,e10,e11⟩
  obtain ⟨cz,_,d,_,d7,d8,d9⟩:=QR hx
  have cg:=hF _ cz
  have au:=cg
  unfold Fine at au
  have y:=ND e2.hdr
  have dk:=ND e2.os.ou
  have dp:done.length<(NN L to dl).length:=by rw [<-e1,Nb,Nk];omega
  have cy:(l++Tu SL to done).length<2 ^ 27:=by rw [Nb,WJ];omega
  rw [MV (x:=⟨0,none,fr,155,[104,105],Wz,Wy⟩) e9 (by omega) rfl rfl]
  rw [show Tc fr [104,105] [.agg (encL x.1).toArray,.agg #[Vi x.2,Vi (x.2+x.1.mins)]] = upd (upd fr 104 (.agg (encL x.1).toArray)) 105 (.agg #[Vi x.2,Vi (x.2+x.1.mins)]) from rfl]
  rw [NP Wz.eq_1]
  refine NI ?_
  obtain ⟨G1,bo,bu,I⟩:=OO (G:=G') (R:=G.length+1) (by omega) (.loop ⟨1,none,fr,155,[104,105],Wz,Wy⟩)
  have gY:=fun X=>(NZ.refl.app (X:=X)).get' e9 (by omega)
  have a4:lim<=G'.length:=by omega
  simp only [NW,NM,a4,gY,bo,show lim<=G.length+1 by omega,SB,seval,NG,place,NB]
  rw [NP Wy.eq_1]
  have kY:∀b,b≠G.length+1->∀Z,b<G'.length->NC (G1++Z) b=NC G' b:=fun b hb Z ck=>by rw [NJ (by rw [I.len];exact ck)];exact I.other b hb
  have dh:=I.len
  have J1:JS A Bo (G'.length::(G'.length+1)::(G.length::(G.length+1)::(QC pw++(X++Xr)))) (G1++[Vc (encL x.1),Vc [Vi x.2,Vi (x.2+x.1.mins)]]) vp (.map (some M)) v4 v5 (.slice pw done.length cw) vmost s r co n g (l++Tu SL to done):=by
   refine e2.sim ((kY A (by omega) _ y).trans e2.hdr) (fun b k hb2 q=>kY b (fun e=>q (by simp [e])) _ hb2) (by simp;omega) fun b hb=>?_
   rw [Nu,Nu] at hb
   rcases hb with rfl | rfl | hb
   ·exact ⟨by simp;omega,.inr (.inl (Ng _))⟩
   ·exact ⟨by simp;omega,.inr (.inl (by omega))⟩
   ·have:=(e2.os.sy b (N1 _ hb)).1
    exact ⟨by simp;omega,.inl hb⟩
  have kL:∀b,b<Bo->b≠A->∀Z,NC (G1++Z) b=NC G b:=fun b k hb2 Z=>by rw [kY b (by omega) _ (by omega)];exact e10 b (by omega) (.inl ⟨k,hb2⟩)
  have ai:∀Z,NC (G1++Z) Bg=Vc [Vp A]:=fun Z=>(kL _ hb.1.1 hb.1.2 Z).trans hG
  have bd:∀Z,NC (G1++Z) Bt=Vc [Vi to]:=fun Z=>(kL _ hb.2.1.1 hb.2.1.2 Z).trans hT
  have cu:∀Z,NC (G1++Z) Bf=Vc [.func (.func 58) #[] #[Vp Bt,Vp Bg]]:=fun Z=>(kL _ hb.2.2.1 hb.2.2.2 Z).trans cf
  have av:∀Z,NC (G1++Z) M=.map (Sw kM vI es):=fun Z=>(kL M (by omega) (by omega) Z).trans hM
  have ay:∀Z,NC (G1++Z) A=Vc [vp,.map (some M),.slice s (2*(l++Tu SL to done).length) r,.slice (Sa Bo) g.length co,v4,v5,.slice pw done.length cw,vmost]:=fun Z=>(kY A (by omega) Z y).trans e2.hdr
  have c5:∀X:NA,NC (G1++X) G'.length=X.getD 0 .dead:=(VA I.len).2.2.1
  have c6:∀(X:NA) (j:Nat),NC (G1++X) (G'.length+j)=X.getD j .dead:=(VA I.len).2.1
  have wc:IntKind.i64.wrap (x.2-x.1.cut)=x.2-x.1.cut:=NY (by omega) (by omega)
  obtain ⟨az,a0⟩:=P x hx
  have ba:=fun (mp:Bool) (lim:Nat) (Z:NA) (Q:Value->NA->Prop)=>Ngt (mp:=mp) (lim:=lim) (p:=(x.1.frm,x.2-x.1.cut)) (Q:=Q) (bd Z) (ai Z) (ay Z) (av Z)
  have be:=Ncp (to:=to) (p:=(x.1.frm,x.2-x.1.cut)) aa (fun _=>az.2)
  have bb:=fun (mp:Bool) (lim:Nat) (Z:NA) (Q:Value->NA->Prop)=>Ngt (mp:=mp) (lim:=lim) (p:=(x.1.dst,x.2+x.1.mins)) (Q:=Q) (bd Z) (ai Z) (ay Z) (av Z)
  have bf:=Ncp (to:=to) (p:=(x.1.dst,x.2+x.1.mins)) aa a0
  simp only at be bf
  simp only [be] at ba
  simp only [bf] at bb
  have d3:=MB (to:=to) (p:=x.1.frm) (t:=x.2-x.1.cut) (fun _=>az.2)
  have a2:=MB (to:=to) (p:=x.1.dst) (t:=x.2+x.1.mins) a0
  simp only [f9,f10,QB,QU,RZ,Uf,ai,cu,c5,c6,wc,ba,bb,SB,seval,NE,NG,NF]
  refine Ng5 (f:=PV SL to x.1.frm (x.2-x.1.cut)) (t:=PV SL to x.1.dst (x.2+x.1.mins)) J1 a5 (by omega) (by omega) (fun v=>by have:=e5 v;omega) (by omega) fun o an ac bl C z a2=>?_
  have aj:=C.hdr
  obtain ⟨kn,D⟩:∃kn,kn=2*(l++Tu SL to done).length:=⟨_,rfl⟩
  obtain ⟨n2,W⟩:∃n2,n2=2*((l++Tu SL to done)++[(⟨PV SL to x.1.dst (x.2+x.1.mins),PV SL to x.1.frm (x.2-x.1.cut),x.1.grams,0⟩:Pr)]).length:=⟨_,rfl⟩
  obtain ⟨no,bc⟩:∃no,no=(Ve g (PV SL to x.1.frm (x.2-x.1.cut)) (PV SL to x.1.dst (x.2+x.1.mins)) (2*(l++Tu SL to done).length)).length:=⟨_,rfl⟩
  rw [<-W,<-bc] at aj
  rw [<-D]
  have am:∀b,b<Bo->b≠A->NC o b=NC G b:=fun b k hb2=>(z b (.inl ⟨k,hb2⟩)).trans (kL b k hb2 _)
  have cx:∀Z,NC (o++Z) Bg=Vc [Vp A]:=fun Z=>(NZ.refl.app).cells ((am _ hb.1.1 hb.1.2).trans hG)
  have bw:∀Z,NC (o++Z) G'.length=Vc [Vi x.1.id,Vi x.1.frm,Vi x.1.dst,Vi x.1.dep,Vi x.1.mins,Vi x.1.cut,Vi x.1.grams,.int .u8 x.1.days]:=fun Z=>(NZ.refl.app).cells ((z _ (.inr (by simp))).trans (by rw [c5];rfl))
  have bx:∀Z,NC (o++Z) (G'.length+1)=Vc [Vi x.2,Vi (x.2+x.1.mins)]:=fun Z=>(NZ.refl.app).cells ((z _ (.inr (by simp))).trans (by rw [c6];rfl))
  have cj:=fun Z=>(NZ.refl.app (X:=Z)).cells aj
  have ao:Own (G.length+2) o Vr 11 pw cw (Tz (2*l.length) done):=RJ e6 fun a u=>by
   have h1:=e6.block u
   have h2:=z a.block (.inr (by simp [NU.2 ⟨a,u,rfl⟩]))
   rw [h2];exact kY _ (by omega) _ h1.2
  simp only [Nb,Nk,Nl] at a2
  have dn:lim<=o.length:=by omega
  have F:(Tz (2*l.length) done).length=done.length:=WI
  obtain ⟨O,p',c',bp,O4,C4,K4,d4,db,_⟩:=Own.moreD ao (lim':=lim) (d:=o.length+1) (bytes:=88) (by omega) SK (by decide) [(x,kn)] (by rw [F];simp;unfold OT;omega) (by rw [F];simp;omega) (by omega) [Vc (Vr (x,kn)),.dead] (by omega) (by simp) (x:=.slice (Sa o.length) 1 1) (str:=false)
   (QH (m:=[(x,kn)]) (Sl.row (ro:=false) SK (by rw [NQ];rfl))) rfl
  have hp:=db (by simp)
  subst hp
  have ap:VQ lim (some (o.length+1)) 11 88 false (.slice pw done.length cw) (.slice (Sa o.length) 1 1) (o++[Vc [Vi x.1.id,Vi x.1.frm,Vi x.1.dst,Vi x.1.dep,Vi x.1.mins,Vi x.1.cut,Vi x.1.grams,.int .u8 x.1.days,Vi x.2,Vi (x.2+x.1.mins),Vi ((kn:Nat):Int)],.dead])=some (.slice (Sa (o.length+1)) (done.length+1) c',O++[]):=by
   have:=bp
   rw [F] at this
   rw [<-F,Own.appL ao,F];exact this
  rw [Na] at O4 K4
  have bh:NC O A=_:=(K4 A (by have:=ND C.hdr;omega) fun a u=>by have:=(e6.block u).1;omega).trans aj
  have de:NC O Bg=_:=(K4 Bg (by have:=ND C.hdr;omega) fun a u=>by have:=(e6.block u).1;omega).trans ((am _ hb.1.1 hb.1.2).trans hG)
  have bm:=(O4.block rfl).2
  simp only at bm
  have df:NC (((O++[]).set o.length Blk.dead).set (o.length+1) Blk.dead) Bg=Vc [Vp A]:=by rw [OU (by omega),OU (by omega),Na];exact de
  have um:((((O++[]).set o.length Blk.dead).set (o.length+1) Blk.dead).set o.length (NC (O++[]) o.length)).set (o.length+1) (NC (O++[]) (o.length+1))=O++[]:=Su o.length [0,1] (O++[])
  have dd:=fun Z=>(NZ.refl.app (X:=Z)).cells bh
  obtain ⟨G5,bq,k5,m5⟩:=OO (ND bh) (Vc [vp,.map (some M),.slice an n2 ac,.slice (Sa Bo) no co,v4,v5,.slice (Sa (o.length+1)) (done.length+1) c',vmost])
  simp only [f9,cx,bw,bx,cj,df,um,ap,dd,a5,bq,SB,seval,NG,place,NB]
  have di:=ND C.hdr
  have S:∀b∈QC pw,G.length+2<=b/\b<G'.length:=fun b hb=>by obtain ⟨a,u,rfl⟩:=NU.1 hb;exact e6.block u
  have bk:∀b,b∉QC pw->∀a,pw=some a->b≠a.block:=fun b hb a u e=>hb (NU.2 ⟨a,u,e.symm⟩)
  have dc:∀b∈X,b<G.length:=fun b hb=>(h.os.sy b (by simp [hb])).1
  have y5:NC G5 (G.length+1)=.loop ⟨1,none,fr,155,[104,105],Wz,Wy⟩:=by
   rw [m5.other _ (by omega),K4 _ (by omega) (bk _ fun B=>by have:=S _ B;omega),z _ (.inr (by simp)),NJ (by omega)];exact bu
  have dr:=m5.len
  obtain ⟨G6,br,k6,m6⟩:=OO (G:=G5) (R:=G.length+1) (by omega) (.loop ⟨0,none,fr,155,[104,105],Wz,Wy⟩)
  have dg:=fun X=>(NZ.refl.app (X:=X)).get' y5 (by omega)
  have du:=m6.len
  refine NI ?_
  simp only [dg,br,show lim<=G.length+1 by omega,SB,seval]
  have kG:∀b,b<o.length->b≠A->b≠G.length+1->b∉QC pw->∀Z,NC (G6++Z) b=NC o b:=fun b k hb2 q ag Z=>by
   rw [NJ (by omega),m6.other b q,m5.other b hb2];exact K4 b k (bk b ag)
  have kX:∀b,b∈(G.length::(G.length+1)::(X++Xr))->b∉QC pw->b<G'.length->b≠A->∀Z,NC (G6++Z) b=NC G' b:=fun b k hb2 q ag Z=>by
   by_cases ah:b=G.length+1
   ·subst ah;rw [NJ (by omega),k6,e9]
   ·rw [kG b (by omega) ag ah hb2 Z,z b (.inr (by simp only [Nu,Nv] at k⊢;rcases k with h | h | h | h<;>simp [h])),kY b ah _ q]
  have ad:l++Tu SL to (done++[x])=(l++Tu SL to done)++[⟨PV SL to x.1.dst (x.2+x.1.mins),PV SL to x.1.frm (x.2-x.1.cut),x.1.grams,0⟩]:=by rw [No8,Nr]
  have bt:Tz (2*l.length) (done++[x])=Tz (2*l.length) done++[(x,kn)]:=by
   rw [Nbp,D,Nb,WJ,Nat.mul_add]
  have ak:=fun b (hb:b∈(G.length::(G.length+1)::(QC pw++(X++Xr))))=>e2.os.sy b (N1 _ hb)
  have O6:Own (G.length+2) (G6++[]) Vr 11 (Sa (o.length+1)) c' (Tz (2*l.length) done++[(x,kn)]):=((O4.mut m5 fun a u e=>by cases u;simp only at e;omega).mut m6 fun a u e=>by cases u;simp only at e;omega).app _
  have bz:NC (G6++[]) A=Vc [vp,.map (some M),.slice an (2*(l++Tu SL to (done++[x])).length) ac,.slice (Sa Bo) (Ve g (PV SL to x.1.frm (x.2-x.1.cut)) (PV SL to x.1.dst (x.2+x.1.mins)) kn).length co,v4,v5,.slice (Sa (o.length+1)) (done++[x]).length c',vmost]:=by
   rw [NJ (by omega),m6.other A (by omega),k5,ad,Nb (as:=done),<-W,D,<-bc];rfl
  have T:=C
  rw [<-D,<-ad] at T
  refine ⟨⟨done++[x],an,ac,bl,Ve g (PV SL to x.1.frm (x.2-x.1.cut)) (PV SL to x.1.dst (x.2+x.1.mins)) kn,Sa (o.length+1),c',by rw [Nr];exact e1,T.sim bz (fun b k hb2 q=>?_) (by simp;omega) (fun b hb=>?_), ?_,by rw [WR];exact e4,fun v=>?_,by rw [bt];exact O6,fun b hb B=>?_, ?_, ?_,fun b k hb2=>?_,by omega⟩,by omega,fun j U=>?_⟩
  ·simp only [Nu,Nv,not_or] at q
   exact kG b hb2 (by omega) q.2.2.2.1 q.2.2.2.2.1 _
  ·simp only [Nu,Nv,QC,O8,or_false] at hb
   rcases hb with rfl | rfl | rfl | hb | hb
   ·exact ⟨by simp;omega,.inl (by simp)⟩
   ·exact ⟨by simp;omega,.inl (by simp)⟩
   ·exact ⟨by simp;omega,.inr (.inl (by omega))⟩
   ·have:=dc b hb
    exact ⟨by simp;omega,.inl (by simp [hb])⟩
   ·have:=(ak b (by simp [hb])).1
    exact ⟨by simp;omega,.inl (by simp [hb])⟩
  ·rw [ad,D];exact e3.join (by omega) (by omega)
  ·have:=XW (out:=g) (f:=PV SL to x.1.frm (x.2-x.1.cut)) (t:=PV SL to x.1.dst (x.2+x.1.mins)) (i:=kn) (v:=v) (by omega) (by omega)
   have:=e5 v
   have h1:(Tu SL to (done++[x])).length=(Tu SL to done).length+1:=by rw [WJ,WJ,Nb];rfl
   rw [Nb] at this
   rw [h1];omega
  ·simp only [QC,Nj] at hb
   have:=(ak b (by simp [B])).1
   omega
  ·exact (kX _ (by simp) (fun B=>by have:=S _ B;omega) (by omega) (by omega) _).trans e8
  ·exact (kX _ (by simp) (fun B=>by have:=S _ B;omega) (by omega) (by omega) _).trans e9
  ·have nb:b∉QC pw:=fun B=>by have:=S _ B;omega
   rcases hb2 with hb2 | hb2
   ·rw [kG b (by omega) hb2.2 (by omega) nb];exact am b hb2.1 hb2.2
   ·rw [kX b (by simp [hb2]) nb (by omega) (h.ax b hb2).2];exact e10 b k (.inr hb2)
  ·exact kX j (by simp [U]) (fun B=>e7 j B U) (ak j (by simp [U])).1 (e2.ax j (by simp [U])).2 _
 ·intro j U;have:=(ae j U).1;simp;omega
 ·refine ⟨[],pa,ca,ols,out,none,0,rfl, ?_, ?_,da, ?_,.nil,fun b hb=>by simp [QC] at hb,NQ,OM,fun b hb _=>J b hb,by simp⟩
  ·have:l++Tu SL to []=l:=by unfold Tu;simp
   rw [this]
   refine h.sim ((J A b0).trans h.hdr) (fun b _ hb _=>J b hb) (by simp) fun b hb=>?_
   simp only [Nu,Nv,QC,O8,false_or] at hb
   rcases hb with rfl | rfl | hb | hb
   ·exact ⟨by simp,.inr (.inl (by omega))⟩
   ·exact ⟨by simp,.inr (.inl (by omega))⟩
   ·have:=(h.os.sy b (by simp [hb])).1
    exact ⟨by simp;omega,.inl hb⟩
   ·obtain ⟨k1,k2⟩:=ae b hb
    rcases k2 with k2 | k2
    ·exact ⟨by simp;omega,.inr (.inr k2)⟩
    ·exact ⟨by simp;omega,.inl k2⟩
  ·have:l++Tu SL to []=l:=by unfold Tu;simp
   rw [this];exact hO
  ·have:l++Tu SL to []=l:=by unfold Tu;simp
   rw [this];exact c0
 ·rintro G' ⟨done,s,r,n,g,pw,cw,e1,e2,e3,e4,e5,e6,e7,e8,e9,e10,e11⟩ dz V
  rw [Na] at e1
  subst e1
  rw [Zj e9,Nhb]
  show PQ E a39 lim (K++[.mark G.length]) fr _ _
  have w:Mut G' (G'.set (G.length+1) .dead) (G.length+1):=⟨by simp,fun j U=>OU U⟩
  have y:=ND e2.hdr
  refine hR _ s r n g pw cw (e2.sim ((w.other A (by omega)).trans e2.hdr) (fun b k hb2 q=>w.other b (fun e=>q (by simp [e]))) (by rw [w.len];omega) fun b hb=>?_) e3 e4 e5 (e6.mut w fun a u=>by have:=(e6.block u).1;omega) (fun b k hb2=>by rw [w.other b (by omega)];exact e10 b k hb2) (by rw [w.len];omega) ((w.other G.length (by omega)).trans e8)
  rw [w.len]
  rcases Nv.1 hb with hb | hb
  ·have:=(e2.os.sy b (by simp [hb])).1
   exact ⟨this,.inl (by simp [hb])⟩
  ·have:=(e2.os.sy b (by simp [hb])).1
   exact ⟨this,.inl (by simp [hb])⟩
theorem Npq [OB] {lim A Bn nn cn co:Nat} {G:NA} {v0 v1 v2 v4 v6 v7:Value} {po:Option Addr} {ols:List Yn} {out:List (List Nat)} {nx:List Nat} {g:Int} {Q:Value->NA->Prop}
  (o:NC G A=Vc [v0,v1,v2,.slice po out.length co,v4,.slice (Sa Bn) nn cn,v6,v7]) (l:Sl G Nc5 1 po ols) (b:ols.length=out.length) (a:(gt ols 0).2.1=0) (c:0<out.length) (p:NC G Bn=Vc (nx.flatMap Tn)) (h:nx.length=nn) (f:0<nn)
  (r:∀Z,Q (Vi 0) (G++Z)) :
  NR E false lim 64 [Vp A,Vi 0,Vi g] G Q:=by
 refine SE (by decide) e64 rfl ?_
 rw [b64,c64]
 simp only [n64,Nm (show ¬(0:Int)=1 by decide),SB,seval,NG,NF,reduceCtorEq,NK]
 refine NL (fun _:Unit=>0) (fun _ fr G'=>fr 0=Vp A/\fr 1=Vi 0/\fr 8=Vi 0/\∃Z,G'=G++Z) () ⟨rfl,rfl,rfl,_,rfl⟩ ?_
 rintro _ fr G' ⟨m,f1,f8,Z,rfl⟩ q
 rw [NP Nvd.eq_1]
 refine NI ?_
 have d:=fun X=>(NZ.refl.app (X:=X)).cells o
 have k:Sl G Tn 1 (Sa Bn) nx:=Sl.row RX p
 have s:=Nq1 (i:=0) k (by omega)
 have t:∀(H1:NA),Wx 1 (.slice (Sa Bn) nn cn) (Vi 0) H1=some (.pointer (some (Tk (Sa Bn) 1 0)),H1):=fun H1=>QM (i:=0) (n:=nn) k f h cn .i64 H1
 have j:=Nuy (i:=0) l (by omega)
 have u:∀(H1:NA),Wx 1 (.slice po out.length co) (Vi 0) H1=some (.pointer (some (Tk po 1 0)),H1):=fun H1=>QM (i:=0) (n:=out.length) l c b co .i64 H1
 rw [a] at j
 have e:¬((gt nx 0:Nat):Int)<0:=by omega
 simp only [n64,r64,m,f1,f8,d,s,t,j,u,e,SB,seval,NG,NF,reduceCtorEq,NH]
 exact r _
theorem JS.stays {A Bo Ba Bn Lb nn cn cv ca co:Nat} {X:List Nat} {G:NA} {vp vm vw vmost:Value} {ols:List Yn} {out:List (List Nat)} {l:List Pr} {L:List Int} (h:JS A Bo X G vp vm (.slice (Sa Lb) L.length cv) (.slice (Sa Bn) nn cn) vw vmost (Sa Ba) ca co ols out l) (m:Lb∈X) (b:Bn∈X) (p:Lb≠Bn) (r:NC G Lb=Vc (L.flatMap encI)) (n:L.length=out.length) :
  Stays Ba Bn A G [vp,vm,.slice (Sa Ba) (2*l.length) ca,.slice (Sa Bo) out.length co,.slice (Sa Lb) L.length cv,.slice (Sa Bn) nn cn,vw,vmost] (Sa Lb) (Sa Bo) cv co ols out L (2*l.length) ca nn cn:=by
 have s:=h.ab
 have j:=h.ar.block rfl
 simp only at j
 have ma:Ba∈QC (some (⟨Ba,0,none⟩:Addr)):=by simp [QC]
 have g:=h.ax Lb m
 have i:=h.ax Bn b
 have q:=h.os.sy Ba (Nz _ ma)
 have d:=h.os.sy Bn (N1 _ b)
 have k:Lb≠Ba:=fun e=>g.1 (by rw [e];exact ma)
 refine ⟨⟨rfl,rfl,rfl,rfl,rfl⟩,fun G' f=>⟨f.cells h.hdr ?_, ?_, ?_,fun v c=>?_⟩,⟨h.os.len,n⟩,fun v c=>(h.os.us v c).2⟩
 ·simp only [Nu,O8,or_false,not_or]
  exact ⟨by omega,fun e=>i.2 e.symm⟩
 ·exact Sl.row (ro:=false) PG (f.cells r (by simp only [Nu,O8,or_false,not_or];exact ⟨k,p⟩))
 ·exact Sl.row (ro:=false) VK (f.cells h.os.ou (by simp only [Nu,O8,or_false,not_or];exact ⟨by omega,fun e=>d.2.1 e.symm⟩))
 ·have ho:=(h.os.us v c).1
  exact (RJ ho fun a o=>f.other _ (ho.block o).2 (by
   simp only [Nu,O8,or_false,not_or]
   exact ⟨q.2.2 v a c o,d.2.2 v a c o⟩)).sl RX
theorem Ndr {PL:List (Int×Int)} {p q:Int×Int} {w:Bool}:q∈UA PL p w↔q∈PL\/(w=true/\q=p):=by
 unfold UA
 split
 ·rename_i h
  rw [Nv,Nj]
  constructor
  ·rintro (h1 | h1)
   ·exact .inl h1
   ·exact .inr ⟨h.1,h1⟩
  ·rintro (h1 | h1)
   ·exact .inl h1
   ·exact .inr h1.2
 ·rename_i h
  constructor
  ·exact .inl
  ·rintro (h1 | ⟨h1,rfl⟩)
   ·exact h1
   ·exact Ns fun hn=>h ⟨h1,hn⟩
theorem Mf {to dl:Int} {q:Int×Int}:∀{s:List Flow.Src} {PL:List (Int×Int)},q∈WG to dl PL s↔q∈PL\/∃x∈s,x.pl≠to/\x.rd<=dl/\q=(x.pl,x.rd)
 | [],PL=>by simp [WG]
 | x::s,PL=>by
   have ih:=Mf (to:=to) (dl:=dl) (q:=q) (s:=s) (PL:=UA PL (x.pl,x.rd) (decide (x.pl≠to)&&decide (x.rd<=dl)))
   change q∈WG to dl (UA PL (x.pl,x.rd) (decide (x.pl≠to)&&decide (x.rd<=dl))) s↔_
   rw [ih,Ndr]
   simp only [Ob,N3,Nu]
   constructor
   ·rintro ((h | ⟨⟨h1,h2⟩,a⟩) | ⟨y,h1,h2⟩)
    ·exact .inl h
    ·exact .inr ⟨x,.inl rfl,h1,h2,a⟩
    ·exact .inr ⟨y,.inr h1,h2⟩
   ·rintro (h | ⟨y,rfl | h1,h2,a,b⟩)
    ·exact .inl (.inl h)
    ·exact .inl (.inr ⟨⟨h2,a⟩,b⟩)
    ·exact .inr ⟨y,h1,h2,a,b⟩
theorem Mh {to:Int} {q:Int×Int}:∀{C:List (Leg×Int)} {PL:List (Int×Int)},q∈XG to PL C↔q∈PL\/∃c∈C,q=(c.1.frm,c.2-c.1.cut)\/(c.1.dst≠to/\q=(c.1.dst,c.2+c.1.mins))
 | [],PL=>by simp [XG]
 | c::C,PL=>by
   have ih:=Mh (to:=to) (q:=q) (C:=C) (PL:=UA (UA PL (c.1.frm,c.2-c.1.cut) true) (c.1.dst,c.2+c.1.mins) (decide (c.1.dst≠to)))
   change q∈XG to (UA (UA PL (c.1.frm,c.2-c.1.cut) true) (c.1.dst,c.2+c.1.mins) (decide (c.1.dst≠to))) C↔_
   rw [ih,Ndr,Ndr]
   simp only [N3,Rt,Nu]
   constructor
   ·rintro (((h | h) | h) | ⟨y,h1,h2⟩)
    ·exact .inl h
    ·exact .inr ⟨c,.inl rfl,.inl h⟩
    ·exact .inr ⟨c,.inl rfl,.inr h⟩
    ·exact .inr ⟨y,.inr h1,h2⟩
   ·rintro (h | ⟨y,rfl | h1,h2⟩)
    ·exact .inl (.inl (.inl h))
    ·rcases h2 with h2 | h2
     ·exact .inl (.inl (.inr h2))
     ·exact .inl (.inr h2)
    ·exact .inr ⟨y,h1,h2⟩
theorem Np3 {to dl:Int} {s:List Flow.Src} {C:List (Leg×Int)} {SL:List (Int×Int)} (hp:SL.Perm (XG to (WG to dl [] s) C)) (e:SL.Pairwise Vk) (b:∀c∈C,c.1.frm≠to):PlOk SL to dl s C:=by
 have a:∀q,q∈SL↔(∃x∈s,x.pl≠to/\x.rd<=dl/\q=(x.pl,x.rd))\/∃c∈C,q=(c.1.frm,c.2-c.1.cut)\/(c.1.dst≠to/\q=(c.1.dst,c.2+c.1.mins)):=fun q=>by
  rw [hp.mem_iff,Mh,Mf];simp
 refine ⟨e,fun q d=>?_,fun x f h1 h2=>(a _).2 (.inl ⟨x,f,h2,h1,rfl⟩),fun c hc=>⟨b c hc,(a _).2 (.inr ⟨c,hc,.inl rfl⟩)⟩,fun c hc h1=>(a _).2 (.inr ⟨c,hc,.inr ⟨h1,rfl⟩⟩)⟩
 rcases (a q).1 d with ⟨x,_,h1,_,rfl⟩ | ⟨c,hc,rfl | ⟨h1,rfl⟩⟩
 ·exact h1
 ·exact b c hc
 ·exact h1
theorem Np4 {to dl:Int} {s:List Flow.Src} {C:List (Leg×Int)} {SL:List (Int×Int)} (hp:SL.Perm (XG to (WG to dl [] s) C)) (e:∀x∈s,0<=x.rd/\x.rd<=OQ) (a:∀c∈C,Fine c.1/\0<=c.2/\c.2+c.1.mins<=OQ):∀q∈SL,-10080<=q.2/\q.2<=OQ:=fun q d=>by
 have h:=hp.mem_iff.1 d
 rw [Mh,Mf] at h
 rcases h with (h | ⟨x,f,_,_,rfl⟩) | ⟨c,hc,rfl | ⟨_,rfl⟩⟩
 ·cases h
 ·have:=e x f;show -10080<=x.rd/\_;omega
 ·obtain ⟨h1,h2,b⟩:=a c hc
  unfold Fine at h1
  show -10080<=c.2-c.1.cut/\c.2-c.1.cut<=OQ
  omega
 ·obtain ⟨h1,h2,b⟩:=a c hc
  unfold Fine at h1
  show -10080<=c.2+c.1.mins/\c.2+c.1.mins<=OQ
  omega
theorem Npp [OB] {lim A Bo Lb Bn cv cn ca co:Nat} {X:List Nat} {G:NA} {vp vm vw vmost:Value} {pa:Option Addr} {ols:List Yn} {out:List (List Nat)} {L:List Int} {l:List Pr} {M:Int} {Q:Value->NA->Prop}
  (h:JS A Bo X G vp vm (.slice (Sa Lb) L.length cv) (.slice (Sa Bn) out.length cn) vw vmost pa ca co ols out l) (x:Lb∈X) (f:Bn∈X) (N:Lb≠Bn) (V:NC G Lb=Vc (L.flatMap encI)) (y:L.length=out.length) (R:NC G Bn=Vc ((List.replicate out.length 0).flatMap Tn))
  (aa:lim<=A) (J:lim<=Bn) (W:∀v,RH L v<=M) (K:∀v,-20000<=RH L v) (S:OutOk l out) (c:0<out.length) (q:out.length<2 ^ 40) (I:l.length<2 ^ 40) (p:∀u,(gt out u).length<2 ^ 40) (hr:∀i,i / 2<l.length->0<=rm l i/\rm l i+rm l (tw i)<=VW)
  (T:∀s l' nx' G',Sent out (RH L) 0 VW l (List.replicate out.length 0) s l' nx'->JS A Bo X G' vp vm (.slice (Sa Lb) L.length cv) (.slice (Sa Bn) out.length cn) vw vmost pa ca co ols out l'->(∀b,b<G.length->b∉QC pa->b≠Bn->NC G' b=NC G b)->G.length<=G'.length->Q (Vi s) G') :
  NR E false lim 64 [Vp A,Vi 0,Vi VW] G Q:=by
 have B:=h.ab
 have d:U0 out (RH L) l (List.replicate out.length 0):=fun v k h1 h2=>by
  exfalso
  unfold gt at h1
  rw [Nc,P3] at h1
  split at h1<;>simp at h1
 rcases h.ar with ⟨e3,e1,e2⟩ | ⟨Ba,e1,e2,e3,U⟩
 ·subst e1
  have n:l=[]:=by
   have:=RQ (l:=l)
   rw [e3] at this
   exact List.length_eq_zero_iff.1 (by simp at this;omega)
  subst n
  have o:gt out 0=[]:=by
   apply Ns
   intro hc
   obtain ⟨i,r,H⟩:=List.exists_cons_of_ne_nil hc
   have:=(S.ok 0 i (by unfold Flow.outs;rw [H];exact Nn)).1
   simp at this
  have g:Sent out (RH L) 0 VW [] (List.replicate out.length 0) 0 [] (List.replicate out.length 0):=(Mid.start out (RH L) (by decide) (fun i hi=>by simp at hi) d).stop (by decide) (by unfold Flow.outs;rw [o];simp)
  refine Npq (v0:=vp) h.hdr (Sl.row (ro:=false) VK h.os.ou) h.os.len ?_ c R (by simp) c fun Z=>?_
  ·rw [(h.os.us 0 c).2,o];rfl
  ·exact T 0 [] _ (G++Z) g (h.app Z) (fun b C _ _=>NJ C) (by simp)
 subst e1
 have t:=h.stays x f N V y
 refine Nx9 (Ba:=Ba) (Bn:=Bn) (M:=M) (by omega) J (fun e=>(h.ax Bn f).1 (by simp [QC,e])) W K q ((M-RH L 0).toNat+1) 0 VW l (List.replicate out.length 0) G Q (by omega) c (by decide) (Oc _) S d hr (by simp) (by simp) rfl I p (fun u=>?_) t e3 R fun s l' nx' G' hS j hB Y=>?_
 ·unfold gt
  rw [Nc,P3]
  split<;>simp
 ·have m:=hS.same.len
  refine T s l' nx' G' hS ⟨?_,.inr ⟨Ba,rfl,e2,hB,U⟩, ?_,B,h.ax⟩ (fun b C D F=>?_) j.len
  ·rw [m];exact (t.keep G' j).1
  ·have P:=h.os.sy Ba (Nz _ (by simp [QC]))
   have w:=h.os.sy Bn (N1 _ f)
   refine h.os.sim (j.other Bo (ND h.os.ou) ?_) (fun u a O z=>j.other _ ((h.os.us u O).1.block z).2 ?_) j.len
   ·simp only [Nu,O8,or_false,not_or];exact ⟨by omega,fun e=>w.2.1 e.symm⟩
   ·simp only [Nu,O8,or_false,not_or];exact ⟨P.2.2 u a O z,w.2.2 u a O z⟩
  ·exact j.other b C (by simp only [Nu,O8,or_false,not_or];exact ⟨fun e=>D (by simp [QC,e]),F⟩)
theorem Nk2 [OB] {lim A Bo ca co:Nat} {X:List Nat} {G:NA} {vp vm v4 v5 vw vmost:Value} {pa:Option Addr} {ols:List Yn} {out:List (List Nat)} {l:List Pr} {Q:Value->NA->Prop}
  (h:JS A Bo X G vp vm v4 v5 vw vmost pa ca co ols out l) (t:lim<=A) (K:OutOk l out) (h2:2<=out.length) (j:out.length<2 ^ 28) (i:∀v,(gt out v).length<2 ^ 40) (w:l.length<2 ^ 40)
  (M:∀G' Lb Bn cv cn L,JS A Bo (Lb::Bn::X) G' vp vm (.slice (Sa Lb) out.length cv) (.slice (Sa Bn) out.length cn) vw vmost pa ca co ols out l->Lb≠Bn->G.length<=Lb->G.length<=Bn->NC G' Lb=Vc (L.flatMap encI)->NC G' Bn=Vc ((List.replicate out.length 0).flatMap Tn)->L.length=out.length->LevOk l out (RH L)->(∀v,-1<=RH L v/\RH L v<out.length)->Chg [A] G G'->Q (.bool (decide (0<=RH L 1))) G') :
  NR E false lim 63 [Vp A] G Q:=by
 have p:=h.ab
 have J:=ND h.hdr
 have k:=ND h.os.ou
 refine Nti (po:=Sa Bo) (ols:=ols) (pa:=pa) h.hdr t (by omega) (fun G' d=>⟨?_,fun v z=>?_, ?_⟩) h.os.len (fun v z=>(h.os.us v z).2) K h2 j i w fun G' Lb Bn cv cn L d h1 H y I D F n g r=>?_
 ·exact Sl.row (ro:=false) VK (d.cells h.os.ou (by rw [Nj];omega))
 ·have ho:=(h.os.us v z).1
  exact (RJ ho fun a c=>d.other _ (ho.block c).2 (by rw [Nj];have:=(ho.block c).1;omega)).sl RX
 ·exact (RJ h.ar fun a c=>d.other _ (h.ar.block c).2 (by rw [Nj];have:=(h.ar.block c).1;omega)).sl PN
 ·refine M G' Lb Bn cv cn L ?_ y h1 H D F n g r d
  have hl:=d.len
  have m:=ND D
  have o:=ND F
  have s:∀b,b<G.length->b≠A->NC G' b=NC G b:=fun b hb q=>d.other b hb (by rw [Nj];exact q)
  refine ⟨I,RJ h.ar fun a c=>s _ (h.ar.block c).2 (by have:=(h.ar.block c).1;omega),(h.os.sim (s Bo k (by omega)) (fun u a f c=>s _ ((h.os.us u f).1.block c).2 (by have:=((h.os.us u f).1.block c).1;omega)) hl).withY fun b hb=>?_,p,fun b hb=>?_⟩
  ·rcases Nv.1 hb with hb | hb
   ·obtain ⟨N,B,C⟩:=h.os.sy b (Nz _ hb)
    exact ⟨by omega,B,C⟩
   ·rw [Nu,Nu] at hb
    rcases hb with rfl | rfl | hb
    ·exact ⟨m,by omega,fun u a f c=>by have:=((h.os.us u f).1.block c).2;omega⟩
    ·exact ⟨o,by omega,fun u a f c=>by have:=((h.os.us u f).1.block c).2;omega⟩
    ·obtain ⟨N,B,C⟩:=h.os.sy b (N1 _ hb)
     exact ⟨by omega,B,C⟩
  ·rw [Nu,Nu] at hb
   rcases hb with rfl | rfl | hb
   ·exact ⟨fun x=>by obtain ⟨a,c,e⟩:=NU.1 x;have:=(h.ar.block c).2;omega,by omega⟩
   ·exact ⟨fun x=>by obtain ⟨a,c,e⟩:=NU.1 x;have:=(h.ar.block c).2;omega,by omega⟩
   ·exact h.ax b hb
theorem Nao {ro:Bool}:∀{q:List (Int×Int)},Tw (.cells ro (q.flatMap enc2))=false
 | []=>rfl
 | x::q=>by
   have:=Nao (ro:=ro) (q:=q)
   rw [N2]
   show Tw (.cells ro ([Vi x.1,Vi x.2]++q.flatMap enc2))=false
   exact this
theorem Nan {ro:Bool}:∀{q:List Nat},Tw (.cells ro (q.flatMap Tn))=false
 | []=>rfl
 | x::q=>by
   have:=Nan (ro:=ro) (q:=q)
   rw [N2]
   show Tw (.cells ro ([Vi x]++q.flatMap Tn))=false
   exact this
theorem rm_nn {n:Nat} {l:List Pr} (h:IsFlow n l) {i:Nat} (hi:i / 2<l.length):0<=rm l i:=by
 have:=h.nn _ (PW hi)
 unfold rm
 split<;>omega
theorem OutOk.alike {l l':List Pr} {out:List (List Nat)} (h:OutOk l out) (k:Flow.Alike l l'):OutOk l' out:=
 ⟨fun v i hi=>by
  obtain ⟨h1,h2,a⟩:=h.ok v i hi
  rw [k.len,k.tl,k.hd];exact ⟨h1,h2,a⟩,fun i hi=>by rw [k.tl];exact h.all i (by rw [k.len] at hi;exact hi)⟩
structure FSq (A Bo Lb Bn cv cn co:Nat) (X:List Nat) (G:NA) (vp vm vw:Value) (pa:Option Addr) (ca:Nat) (ols:List Yn) (out:List (List Nat)) (L:List Int) (l:List Pr):Prop where
 js:JS A Bo X G vp vm (.slice (Sa Lb) L.length cv) (.slice (Sa Bn) out.length cn) vw (Vi (Flow.exc 1 l)) pa ca co ols out l
 xl:Lb∈X
 xn:Bn∈X
 ne:Lb≠Bn
 lb:NC G Lb=Vc (L.flatMap encI)
 len:L.length=out.length
 nb:NC G Bn=Vc ((List.replicate out.length 0).flatMap Tn)
structure MI (lim A Bo co ca n Bn0:Nat) (X:List Nat) (G:NA) (vp vm vw:Value) (pa:Option Addr) (ols:List Yn) (out:List (List Nat)) (l0:List Pr) (k:Nat) (X':List Nat) (Lb Bn cv cn:Nat) (L:List Int) (l:List Pr) (G':NA):Prop where
 sub:∀b∈X,b∈X'
 fs:FSq A Bo Lb Bn cv cn co X' G' vp vm vw pa ca ols out L l
 lims:lim<=Lb/\lim<=Bn
 al:Flow.Alike l0 l
 fl:IsFlow n l
 lv:∀v,-20000<=RH L v/\RH L v<=1051898401
 ok:k≠0->LevOk l out (RH L)
 one:k=1->0<=RH L 1
 two:k=2->RH L 1<0
 pos:0<=Flow.exc 1 l
 keep:∀b,b<G.length->b≠A->b∉QC pa->b≠Bn0->NC G' b=NC G b
 glen:G.length<=G'.length
 bn:Bn=Bn0\/G.length<=Bn
theorem Nyx [OB] {lim A Bo Lb Bn Bt Bg Bf Bnn cv cn co ca ns cs n:Nat} {X:List Nat} {G:NA} {fr:Nat->Value} {vp vm vw:Value} {pa ps:Option Addr} {ols:List Yn} {out:List (List Nat)} {L:List Int} {l0:List Pr} {dl:Int} {K:List AItem} {Q:Value->NA->Prop}
  (hf:BF fr ps ns cs dl Bnn Bt Bg Bf) (h:FSq A Bo Lb Bn cv cn co X G vp vm vw pa ca ols out L l0) (J:lim<=A) (be:lim<=Lb/\lim<=Bn) (hO:OutOk l0 out) (ba:IsFlow n l0) (h2:2<=out.length) (ai:out.length<2 ^ 28) (bz:l0.length<2 ^ 27) (C:∀v,(gt out v).length<2 ^ 40)
  (aa:∀i,i / 2<l0.length->rm l0 i+rm l0 (tw i)<=VW) (a0:∀v,-20000<=RH L v/\RH L v<=1051898401) {S:Nat->Bool} (a4:S 0=true) (a5:S 1=false) (Y:Flow.cut S l0<VW) (bg:0<=Flow.exc 1 l0)
  (hG:NC G Bg=Vc [Vp A]) (g:Bg<G.length/\Bg≠A/\Bg∉QC pa/\Bg≠Bn) (l:fr 20=.bool true)
  (hR:∀fr' G' X' ap ao au aq L' l',BF fr' ps ns cs dl Bnn Bt Bg Bf->(∀b∈X,b∈X')->FSq A Bo ap ao au aq co X' G' vp vm vw pa ca ols out L' l'->Flow.Alike l0 l'->IsFlow n l'->LevOk l' out (RH L')->RH L' 1<0->(∀b,b<G.length->b≠A->b∉QC pa->b≠Bn->NC G' b=NC G b)->G.length<=G'.length->PQ E a39 lim K fr' G' Q) :
  PQ E a39 lim (.code (.loop Nvo)::.inBlock 8::K) fr G Q:=by
 obtain ⟨P,W⟩:∃P,P=Flow.cut S l0:=⟨_,rfl⟩
 have an:VW=1152921504606846976:=rfl
 refine NL (fun z:Nat×List Nat×Nat×Nat×Nat×Nat×List Int×List Pr=>if z.1=0 then (P-Flow.exc 1 z.2.2.2.2.2.2.2).toNat+2 else if z.1=1 then (P-Flow.exc 1 z.2.2.2.2.2.2.2).toNat+1 else 0)
  (fun z fr G'=>BF fr ps ns cs dl Bnn Bt Bg Bf/\fr 20=.bool (decide (z.1<2))/\MI lim A Bo co ca n Bn X G vp vm vw pa ols out l0 z.1 z.2.1 z.2.2.1 z.2.2.2.1 z.2.2.2.2.1 z.2.2.2.2.2.1 z.2.2.2.2.2.2.1 z.2.2.2.2.2.2.2 G'/\z.1<3) (0,X,Lb,Bn,cv,cn,L,l0)
  ⟨hf,l,⟨fun b g=>g,h,be,.refl,ba,a0,fun e=>absurd rfl e,fun e=>(by cases e),fun e=>(by cases e),bg,fun b _ _ _ _=>rfl,Ng _,.inl rfl⟩,Nat.zero_lt_succ _⟩ ?_
 rintro ⟨k,N,p,o,t,q,L1,l1⟩ fr G1 ⟨hf,l,d,bc⟩ hN
 simp only at l d bc
 obtain ⟨f1,f3,f4,f6,f9,f10⟩:=hf
 rw [NP Nvo.eq_1]
 refine NI ?_
 have br:=d.fs.js.ab
 by_cases hk:k<2
 case neg=>
  have w:k=2:=by omega
  rw [Nw hk] at l
  simp only [n39,l,SB,seval,NG]
  refine hR _ _ N p o t q L1 l1 ⟨f1,f3,f4,f6,f9,f10⟩ d.sub ?_ d.al d.fl (d.ok (by omega)) (d.two w) ?_ ?_
  ·rw [Na];exact d.fs
  ·rw [Na];exact d.keep
  ·rw [Na];exact d.glen
 rw [No hk] at l
 have bq:=ND d.fs.js.hdr
 have bl:∀Z,NC (G1++Z) Bg=Vc [Vp A]:=fun Z=>(NZ.refl.app (X:=Z)).cells ((d.keep Bg g.1 g.2.1 g.2.2.1 g.2.2.2).trans hG)
 have kA:=fun Z=>(NZ.refl.app (X:=Z)).cells d.fs.js.hdr
 have bx:lim<=G1.length:=by omega
 obtain ⟨e1,F⟩:∃e1,e1=Flow.exc 1 l1:=⟨_,rfl⟩
 have ak:=kA
 rw [<-F] at ak
 have aj:Tw (Vc [vp,vm,.slice pa (2*l1.length) ca,.slice (Sa Bo) out.length co,.slice (Sa p) L1.length t,.slice (Sa o) out.length q,vw,Vi e1])=true:=by simp [Tw]
 simp only [n39,f9,l,bl,ak,aj,SB,seval,NE,NG]
 simp only [Na]
 have a2:=hO.alike d.al
 refine Npp (M:=1051898401) d.fs.js d.fs.xl d.fs.xn d.fs.ne d.fs.lb d.fs.len d.fs.nb J d.lims.2 (fun v=>(d.lv v).2) (fun v=>(d.lv v).1) a2 (by omega) (by omega) (by have:=d.al.len;omega) C (fun i hi=>⟨rm_nn d.fl hi,by rw [d.al.cap i (by rw [<-d.al.len];exact hi)];exact aa i (by rw [<-d.al.len];exact hi)⟩) fun s x ce G2 hS D w bt=>?_
 have av:OG (List.length G1) [] (G1++[])=G1:=by rw [Na];rfl
 have I:VE G1 G2=true:=by
  refine Nii fun j hj=>?_
  obtain ⟨ro,c,hc⟩:=U3 hj
  refine w j (ND hc) (fun hm=>?_) fun e=>?_
  ·obtain ⟨a,ha,rfl⟩:=NU.1 hm
   rcases d.fs.js.ar with h3 | ⟨R,e5,_,e7,_⟩
   ·rw [h3.2.1] at ha;cases ha
   ·rw [e5] at ha;cases ha
    rw [e7,Nao] at hj;cases hj
  ·rw [e,d.fs.nb,Nan] at hj;cases hj
 refine ⟨by rw [av];exact I, ?_⟩
 obtain ⟨B,bh⟩:=hS.flow d.fl
 have b5:=hS.lo
 have m:Flow.Alike l0 x:=d.al.trans hS.same
 have bm:Flow.exc 1 x<=P:=by
  have:=B.le_cut a4 a5
  rw [m.cut,<-W] at this;exact this
 rw [<-W] at Y
 have bo:=d.pos
 have wx:IntKind.i64.wrap (e1+s)=e1+s:=NY (by omega) (by omega)
 obtain ⟨n2,ag⟩:∃n2,n2=2*x.length:=⟨_,rfl⟩
 have H:=D.hdr
 rw [<-ag,<-F] at H
 obtain ⟨G3,e3,k3,O⟩:=OO (ND H) (Vc [vp,vm,.slice pa n2 ca,.slice (Sa Bo) out.length co,.slice (Sa p) L1.length t,.slice (Sa o) out.length q,vw,Vi (e1+s)])
 have bk:=fun Z=>(NZ.refl.app (X:=Z)).cells H
 have ac:∀b,b<G.length->b≠A->b∉QC pa->b≠Bn->NC G2 b=NC G b:=fun b b1 b2 b3 b4=>by
  rw [w b (by have:=d.glen;omega) b3 (by rcases d.bn with e | e<;>omega)];exact d.keep b b1 b2 b3 b4
 have am:∀Z,NC (G3++Z) Bg=Vc [Vp A]:=fun Z=>(NZ.refl.app (X:=Z)).cells ((O.other Bg g.2.1).trans ((ac Bg g.1 g.2.1 g.2.2.1 g.2.2.2).trans hG))
 refine NI ?_
 simp only [n39,f9,bk,am,e3,J,wx,SB,seval,NE,NG,NF,NB]
 simp only [Na]
 have U:JS A Bo N G3 vp vm (.slice (Sa p) L1.length t) (.slice (Sa o) out.length q) vw (Vi (Flow.exc 1 x)) pa ca co ols out x:=by
  refine D.sim (by rw [bh,<-F,<-ag];exact k3) (fun b b1 _ _=>O.other b (by omega)) (by rw [O.len];exact Ng _) fun b g=>⟨?_,.inl g⟩
  rw [O.len]
  exact (D.os.sy b (N1 _ g)).1
 refine Nk2 U J (hO.alike m) h2 ai C (by have:=m.len;omega) fun G4 f Bn2 u r L2 ay ah bw b0 az a1 y ad ae T=>?_
 refine NI ?_
 simp only [n39,SB,seval,NG]
 have bu:=O.len
 have bp:=ND U.hdr
 have bb:∀b,b<G.length->b≠A->b∉QC pa->b≠Bn->NC G4 b=NC G b:=fun b b1 b2 b3 b4=>by
  rw [T.other b (by have:=d.glen;omega) (by rw [Nj];exact b2),O.other b b2];exact ac b b1 b2 b3 b4
 have aw:FSq A Bo f Bn2 u r co (f::Bn2::N) G4 vp vm vw pa ca ols out L2 x:=⟨by rw [y];exact ay,by simp,by simp,ah,az,y,a1⟩
 have V:∀k',(k'=1->0<=RH L2 1)->(k'=2->RH L2 1<0)->MI lim A Bo co ca n Bn X G vp vm vw pa ols out l0 k' (f::Bn2::N) f Bn2 u r L2 x G4:=fun k' q1 q2=>
  ⟨fun b g=>by simp [d.sub b g],aw,⟨by omega,by omega⟩,m,B,fun v=>by have:=ae v;omega,fun _=>ad,q1,q2,by omega,bb,by have:=d.glen;have:=T.len;omega,.inr (by have:=d.glen;omega)⟩
 by_cases hg:0<=RH L2 1
 ·rw [No hg]
  have bf:k=1->0<s:=fun e=>hS.pos (by decide) ((d.ok (by omega)).alive (d.one e))
  refine hN (1,f::Bn2::N,f,Bn2,u,r,L2,x) _ _ ⟨⟨f1,f3,f4,f6,f9,f10⟩,show _=Value.bool true from rfl,by rw [Na];exact V 1 (fun _=>hg) (fun e=>absurd e (by decide)),by show 1<3;omega⟩ ?_
  simp only
  rcases (by omega:k=0\/k=1) with rfl | rfl
  ·simp;omega
  ·have:=bf rfl
   simp;omega
 ·rw [Nw hg]
  refine hN (2,f::Bn2::N,f,Bn2,u,r,L2,x) _ _ ⟨⟨f1,f3,f4,f6,f9,f10⟩,show _=Value.bool false from rfl,by rw [Na];exact V 2 (fun e=>absurd e (by decide)) (fun _=>by omega),by show 2<3;omega⟩ ?_
  simp only
  rcases (by omega:k=0\/k=1) with rfl | rfl<;>simp
structure Built (H G:NA) (A:Nat) (s:List Flow.Src) (C:List (Leg×Int)) (to dl:Int) (SL:List (Int×Int)) (Lv:List Int) (l:List Pr) (out:List (List Nat)) (Lb cp ca cv cw:Nat) (pp pa pw:Option Addr) (vm vo v5:Value):Prop where
 hdr:NC G A=Vc [.slice pp SL.length cp,vm,.slice pa (2*l.length) ca,vo,.slice (Sa Lb) Lv.length cv,v5,.slice pw C.length cw,Vi (Flow.exc 1 l)]
 new:H.length<=A
 keep:∀b,b<H.length->NC G b=NC H b
 len:H.length<=G.length
 sp:Sl G enc2 2 pp SL
 sa:Sl G enc2 2 pa (SC l)
 sl:NC G Lb=Vc (Lv.flatMap encI)
 sw:Sl G Vr 11 pw (Tz (2*(PH SL 2++Sg SL to dl s).length) C)
 ll:Lv.length=SL.length+2
 pl:PlOk SL to dl s C
 ns:SL.length<60000
 mem:∀q∈SL,(∃x∈s,q=(x.pl,x.rd))\/∃c∈C,q=(c.1.frm,c.2-c.1.cut)\/q=(c.1.dst,c.2+c.1.mins)
 al:Flow.Alike (RL SL to dl s C) l
 fl:IsFlow (SL.length+2) l
 ok:OutOk l out
 lv:LevOk l out (RH Lv)
 one:RH Lv 1<0
 best:BestC s C to dl (firstT (RH Lv) SL 2) (Flow.exc 1 l)
theorem PS.grow {A M:Nat} {X X':List Nat} {G:NA} {pp:Option Addr} {cp:Nat} {vs:List Value} {PL:List (Int×Int)} (h:PS A M X G pp cp vs PL) (Z:NA) (e:∀b∈X',b∈X\/(G.length<=b/\b<G.length+Z.length)):PS A M X' (G++Z) pp cp vs PL:=by
 have d:=ND h.hdr
 have c:=h.ma
 refine ⟨(NZ.refl.app).cells h.hdr,h.own.app Z, ?_,c,h.nd,fun b g=>?_⟩
 ·rw [NJ (by omega)];exact h.mp
 ·rcases e b g with h1 | ⟨h1,h2⟩
  ·have:=h.sx b h1
   exact ⟨by simp;omega,this.2⟩
  ·refine ⟨by simp;omega,by omega,by omega,fun i=>?_⟩
   obtain ⟨a,f,rfl⟩:=NU.1 i
   have:=(h.own.block f).2
   omega
theorem PS.mark {A M d:Nat} {X:List Nat} {G:NA} {pp:Option Addr} {cp:Nat} {vs:List Value} {PL:List (Int×Int)} (h:PS A M X G pp cp vs PL) (hd:NC G d=.dfr) (hl:d<G.length):PS A M (d::X) G pp cp vs PL:=by
 refine ⟨h.hdr,h.own,h.mp,h.ma,h.nd,fun b hb=>?_⟩
 rcases Nu.1 hb with rfl | hb
 ·refine ⟨hl,fun e=>?_,fun e=>?_,fun i=>?_⟩
  ·rw [e,h.hdr] at hd;cases hd
  ·rw [e,h.mp] at hd;cases hd
  ·obtain ⟨a,c,rfl⟩:=NU.1 i
   rcases h.own with g | ⟨R,f,_,e7,_⟩
   ·rw [g.2.1] at c;cases c
   ·rw [f] at c;cases c
    rw [e7] at hd;cases hd
 ·exact h.sx b hb
theorem JS.more {A Bo:Nat} {X X':List Nat} {G:NA} {vp vm v4 v5 vw vmost:Value} {pa:Option Addr} {ca co:Nat} {ols:List Yn} {out:List (List Nat)} {l:List Pr} (h:JS A Bo X G vp vm v4 v5 vw vmost pa ca co ols out l) (Z:NA) (d:∀b∈X',b∈X\/(G.length<=b/\b<G.length+Z.length)):JS A Bo X' (G++Z) vp vm v4 v5 vw vmost pa ca co ols out l:=by
 have c:=ND h.os.ou
 refine h.sim ((NZ.refl.app).cells h.hdr) (fun b _ a _=>NJ a) (by simp) fun b a=>?_
 rcases d b a with h1 | ⟨h1,h2⟩
 ·have:=(h.os.sy b (N1 _ h1)).1
  exact ⟨by simp;omega,.inl h1⟩
 ·exact ⟨by simp;omega,.inr (.inl h1)⟩
theorem Nnq {α:Type} {lo e c d:Nat} {G:NA} {enc:α->List Value} {p:Option Addr} {q:List α} (h:Own lo G enc e p c q) (hd:NC G d=.dfr):d∉QC p:=fun i=>by
 obtain ⟨a,b,rfl⟩:=NU.1 i
 rcases h with g | ⟨R,f,_,e7,_⟩
 ·rw [g.2.1] at b;cases b
 ·rw [f] at b;cases b
  rw [e7] at hd;cases hd
theorem S9:∀{L:List Leg} {to dl:Int},(∀l∈L,Fine l)->(NN L to dl).length<=14*L.length
 | [],to,dl,_=>by simp [NN]
 | l::L,to,dl,h=>by
   have ih:=S9 (L:=L) (to:=to) (dl:=dl) fun x a=>h x (Ni _ a)
   have h1:=Nuw (dl:=dl) (h l Nn)
   unfold NN at ih⊢
   rw [N2,Nb,Nk]
   have:(Xf to dl l).length<=14:=by
    unfold Xf;split
    ·simp
    ·exact h1
   omega
theorem Nho:∀{s:List Flow.Src},(∀x∈s,x.gr<=1000000000)->Me s<=1000000000*s.length
 | [],_=>by simp [Me,Ny2]
 | x::s,h=>by
   have ih:=Nho (s:=s) fun y a=>h y (Ni _ a)
   have:=h x Nn
   have e:Me (x::s)=x.gr+Me s:=rfl
   rw [e,Nk];omega
theorem N39 {Lv:List Int} (h:∀x∈Lv,-20000<=x/\x<=1051898401) (v:Nat):-20000<=RH Lv v/\RH Lv v<=1051898401:=by
 unfold RH
 rw [Nc]
 cases hg:Lv[v]? with
 | none=>simp
 | some x=>exact h x (Ok hg)
theorem JS.add {A Bo:Nat} {X X':List Nat} {G G':NA} {vp vm v4 v5 f g vw vmost:Value} {pa:Option Addr} {ca co:Nat} {ols:List Yn} {out:List (List Nat)} {l:List Pr} (h:JS A Bo X G vp vm v4 v5 vw vmost pa ca co ols out l) (k:JS A Bo X G' vp vm f g vw vmost pa ca co ols out l) (d:∀b∈X',b∈X\/(G.length<=b/\b<G'.length)):JS A Bo X' G' vp vm f g vw vmost pa ca co ols out l:=by
 have i:=ND h.hdr
 have j:=ND h.os.ou
 refine ⟨k.hdr,k.ar,k.os.withY fun b hb=>?_,k.ab,fun b hb=>?_⟩
 ·rcases Nv.1 hb with hb | hb
  ·exact k.os.sy b (Nz _ hb)
  ·rcases d b hb with h1 | ⟨h1,h2⟩
   ·exact k.os.sy b (N1 _ h1)
   ·exact ⟨h2,by omega,fun u a n c=>by have:=((h.os.us u n).1.block c).2;omega⟩
 ·rcases d b hb with h1 | ⟨h1,h2⟩
  ·exact k.ax b h1
  ·exact ⟨fun m=>by obtain ⟨a,c,e⟩:=NU.1 m;have:=(h.ar.block c).2;omega,by omega⟩
theorem Nq9 {PL:List (Int×Int)} {to dl:Int} {s:List Flow.Src} {C:List (Leg×Int)} (h:PlOk PL to dl s C) (d:∀x∈s,0<=x.gr/\x.gr<=1000000000) (a:∀c∈C,0<=c.1.grams/\c.1.grams<=1000000000) {i:Nat} (hi:i / 2<(RL PL to dl s C).length):rm (RL PL to dl s C) i+rm (RL PL to dl s C) (tw i)<=VW:=by
 have key:(gt (RL PL to dl s C) (i / 2)).room<=VW/\(gt (RL PL to dl s C) (i / 2)).flow=0:=by
  have b:=PW hi
  refine ⟨?_,(TV h (fun x g=>(d x g).1) (fun c hc=>(a c hc).1) b).2.2.2⟩
  rcases Zh b with hp | hp | hp
  ·obtain ⟨j,_,_,e⟩:=Us.1 hp
   rw [e];exact Oc _
  ·obtain ⟨x,h1,_,e⟩:=XM.1 hp
   rw [e];have:=(d x h1).2
   show x.gr<=1152921504606846976;omega
  ·obtain ⟨c,h1,e⟩:=Nbr.1 hp
   rw [e];have:=(a c h1).2
   show c.1.grams<=1152921504606846976;omega
 unfold rm
 rw [VX]
 by_cases h2:i % 2=0
 ·rw [Nh h2,Nf (by rw [XI];exact fun f=>f h2)];omega
 ·rw [Nf h2,Nh ((XI i).mpr h2)];omega
theorem Ndi [OB] {lim np cpn cl cs:Nat} {H:NA} {pp2 pl ps:Option Addr} {L:List Leg} {s:List Flow.Src} {to dl:Int} {Q:Value->NA->Prop}
  (cf:lim<=H.length) (hs:Sl H encS 3 ps s) (hl:Sl H encL 8 pl L) (hF:∀l∈L,Fine l) (e4:L.length<=8) (bu:0<=dl) (bw:dl<=OQ) (er:s.length<=60) (ac:∀x∈s,0<=x.rd/\x.rd<=OQ/\0<=x.gr/\x.gr<=1000000000)
  (hQ:∀G A SL Lv l out Lb cp ca cv cw pp pa pw vm vo v5,Built H G A s (NN L to dl) to dl SL Lv l out Lb cp ca cv cw pp pa pw vm vo v5->Q (Vp A) G) :
  NR E false lim 39 [.agg (netV pp2 np cpn pl L.length cl).toArray,.slice ps s.length cs,Vi to,Vi dl] H Q:=by
 have ez:=S9 (to:=to) (dl:=dl) hF
 have U:∀c∈NN L to dl,Fine c.1/\c.1.frm≠to/\0<=c.2/\c.2+c.1.mins<=OQ:=fun c hc=>by
  obtain ⟨h1,h2,d,_,h3,h4,h5⟩:=QR hc
  exact ⟨hF _ h1,h2,by omega,by omega⟩
 have ag:∀a,ps=some a->s≠[]->a.block<H.length:=fun a k hn=>by
  rw [k] at hs
  obtain ⟨ro,c,h1,_⟩:=hs.2 hn
  exact ND h1
 have O:∀a,pl=some a->L≠[]->a.block<H.length:=fun a k hn=>by
  rw [k] at hl
  obtain ⟨ro,c,h1,_⟩:=hl.2 hn
  exact ND h1
 refine SE (by decide) e39 rfl ?_
 rw [b39,c39]
 refine NI ?_
 simp only [n39,cf,SB,seval,NG,NK,place,NB]
 obtain ⟨h0,m⟩:∃h0,h0=H.length:=⟨_,rfl⟩
 obtain ⟨G0,o⟩:∃G0,G0=H++[Vc (netV pp2 np cpn pl L.length cl),Vc [Vi to],Blk.map [],Vc [Vz,.map (some (H.length+2)),Vz,Vz,Vz,Vz,Vz,Vi 0],Vc [Vp (H.length+3)],Vc [.func (.func 58) #[] #[Vp (H.length+1),Vp (H.length+4)]]]:=⟨_,rfl⟩
 have b0:NC G0 h0=Vc (netV pp2 np cpn pl L.length cl):=by rw [o,m];exact NQ
 have b1:NC G0 (h0+1)=Vc [Vi to]:=by rw [o,m];exact OM
 have b2:NC G0 (h0+2)=.map []:=by rw [o,m];exact OM
 have b3:NC G0 (h0+3)=Vc [Vz,.map (some (h0+2)),Vz,Vz,Vz,Vz,Vz,Vi 0]:=by rw [o,m];exact OM
 have b4:NC G0 (h0+4)=Vc [Vp (h0+3)]:=by rw [o,m];exact OM
 have b5:NC G0 (h0+5)=Vc [.func (.func 58) #[] #[Vp (h0+1),Vp (h0+4)]]:=by rw [o,m];exact OM
 have bo:∀b,b<h0->NC G0 b=NC H b:=fun b hb=>by rw [o];exact NJ (by omega)
 have bl:G0.length=h0+6:=by rw [o,m];simp
 have de:Sl G0 encS 3 ps s:=by rw [o];exact hs.app _
 have dd:Sl G0 encL 8 pl L:=by rw [o];exact hl.app _
 rw [<-o]
 simp only [<-m]
 clear o
 obtain ⟨X,hX⟩:∃X,X=h0::(h0+1)::(h0+4)::(h0+5)::List.range h0:=⟨_,rfl⟩
 have f:∀b,b<h0\/b=h0\/b=h0+1\/b=h0+4\/b=h0+5->b∈X:=fun b hb=>by rw [hX];simp;omega
 have u:∀b∈X,b<h0\/b=h0\/b=h0+1\/b=h0+4\/b=h0+5:=fun b hb=>by rw [hX] at hb;simp at hb;omega
 refine Nz5 (A:=h0+3) (M:=h0+2) (Bn:=h0) (Bt:=h0+1) (Bg:=h0+4) (Bf:=h0+5) (X:=X) (pp:=none) (cp:=0) (PL:=[]) (vs:=[Vz,Vz,Vz,Vz,Vz,Vi 0]) (to:=to) (dl:=dl) (cs:=cs) ⟨rfl,rfl,rfl,rfl,rfl,rfl⟩ ⟨b3,.nil,b2,by omega,List.nodup_nil,fun b hb=>?_⟩ (by omega) rfl (by simp;omega) b4 b1 ⟨f _ (by omega),f _ (by omega),fun a k hn=>f _ (.inl (by rw [m];exact ag a k hn))⟩ de rfl rfl rfl fun fr1 G1 eg dk dz bp a5 e5=>?_
 ·have:=u b hb
  refine ⟨by omega,by omega,by omega,by simp [QC]⟩
 obtain ⟨f1,f3,f4,f6,f9,f10⟩:=dz
 have k0:=fun Z=>(NZ.refl.app (X:=Z)).cells ((a5 h0 (f _ (by omega))).trans b0)
 have k1:=fun Z=>(NZ.refl.app (X:=Z)).cells ((a5 (h0+1) (f _ (by omega))).trans b1)
 refine NI ?_
 simp only [n39,OC,f3,f4,f6,k0,k1,SB,seval,NE,NG]
 refine Zn ?_
 rw [Wo,YD]
 try simp only [Na]
 obtain ⟨j,r⟩:∃j,j=G1++[Vc (netV pp2 np cpn pl L.length cl),Vc [Vi to],Vc [Vi dl]]:=⟨_,rfl⟩
 have c0:NC j G1.length=Vc (netV pp2 np cpn pl L.length cl):=by rw [r];exact NQ
 have c1:NC j (G1.length+1)=Vc [Vi to]:=by rw [r];exact OM
 have c2:NC j (G1.length+2)=Vc [Vi dl]:=by rw [r];exact OM
 have eu:j.length=G1.length+3:=by rw [r];simp
 obtain ⟨X2,B⟩:∃X2,X2=G1.length::(G1.length+1)::(G1.length+2)::X:=⟨_,rfl⟩
 have bq:PS (h0+3) (h0+2) X2 j eg dk [Vz,Vz,Vz,Vz,Vz,Vi 0] (WG to dl [] s):=by
  rw [r]
  refine bp.grow _ fun b hb=>?_
  rw [B] at hb
  simp only [Nu] at hb
  rcases hb with rfl | rfl | rfl | hb
  ·exact .inr ⟨Ng _,by simp⟩
  ·exact .inr ⟨by omega,by simp⟩
  ·exact .inr ⟨by omega,by simp⟩
  ·exact .inl hb
 have am:∀b∈X,NC j b=NC G0 b:=fun b hb=>by
  rw [r,NJ (bp.sx b hb).1];exact a5 b hb
 rw [<-r]
 have fh:(WG to dl [] s).length<=s.length:=by have:=Ndq (to:=to) (dl:=dl) (s:=s) (PL:=[]);simpa using this
 refine Nxv (A:=h0+3) (M:=h0+2) (Bn:=h0) (Bt:=h0+1) (Bg:=h0+4) (Bf:=h0+5) (X:=X2) (Bd2:=G1.length+2) (Bn2:=G1.length) (Bt2:=G1.length+1) (np:=np) (cpn:=cpn) (cl:=cl) (pp2:=pp2) (pl:=pl) (L:=L) (to:=to) (dl:=dl) (ps:=ps) (ns:=s.length) (cs:=cs) ⟨f1,f3,f4,f6,f9,f10⟩ bq (by omega) rfl (by omega)
  ((am _ (f _ (by omega))).trans b4) ((am _ (f _ (by omega))).trans b1) ⟨by rw [B];simp [f (h0+4) (by omega)],by rw [B];simp [f (h0+1) (by omega)]⟩ rfl c2 c0 c1
  (Xa dd fun a k hn=>am _ (f _ (.inl (by rw [m];exact O a k hn)))) ⟨by rw [B];simp,by rw [B];simp,by rw [B];simp,fun a k hn=>by rw [B];simp [f a.block (.inl (by rw [m];exact O a k hn))]⟩ hF (by omega) bu bw fun G2 et eh dy d6 au fa=>?_
 have cz:∀b∈X,NC G2 b=NC G0 b:=fun b hb=>(d6 b (by rw [B];simp [hb])).trans (am b hb)
 have k4:=fun Z=>(NZ.refl.app (X:=Z)).cells ((cz (h0+4) (f _ (by omega))).trans b4)
 refine NI ?_
 rw [show ∀(a b c d:AItem),[a,b,c]++[d]=[a,b,c,d] from fun _ _ _ _=>rfl]
 simp only [n39,f9,k4,SB,seval,NE,NG]
 try simp only [Na]
 have br:=dy.mark au (by omega)
 have d8:(XG to (WG to dl [] s) (NN L to dl)).length<=s.length+2*(NN L to dl).length:=by
  have:=Ndu (to:=to) (C:=NN L to dl) (PL:=WG to dl [] s);omega
 refine Ntt (v2:=Vz) br (by omega) (by omega) fun G3 ah ai SL Bo pa ca co ols out es dr D cg dw cr cj eo J a0 ek bm W bx fb=>?_
 have y:PlOk SL to dl s (NN L to dl):=Np3 D cg fun c hc=>(U c hc).2.1
 have d5:=Np4 D (fun x hx=>⟨(ac x hx).1,(ac x hx).2.1⟩) fun c hc=>⟨(U c hc).1,(U c hc).2.2⟩
 have em:=D.length_eq
 have ci:∀q∈SL,(∃x∈s,q=(x.pl,x.rd))\/∃c∈NN L to dl,q=(c.1.frm,c.2-c.1.cut)\/q=(c.1.dst,c.2+c.1.mins):=fun q hq=>by
  have:=D.mem_iff.1 hq
  rw [Mh,Mf] at this
  rcases this with (h | ⟨x,hx,_,_,e⟩) | ⟨c,hc,e | ⟨_,e⟩⟩
  ·cases h
  ·exact .inl ⟨x,hx,e⟩
  ·exact .inr ⟨c,hc,.inl e⟩
  ·exact .inr ⟨c,hc,.inr e⟩
 have ae:∀b∈X,NC G3 b=NC G0 b:=fun b hb=>(bx b (by rw [B];simp [hb])).trans (cz b hb)
 refine NI ?_
 simp only [n39,f1,SB,seval,NG]
 try simp only [Na]
 refine Nv8 (Bn:=h0) (Bt:=h0+1) (Bg:=h0+4) (Bf:=h0+5) (s:=s) (ps:=ps) (cs:=cs) (to:=to) (dl:=dl) ⟨f1,f3,f4,f6,f9,f10⟩ dr (by omega) bm (by omega) W y.src dw cr cj (by omega) ((ae _ (f _ (by omega))).trans b4) ((ae _ (f _ (by omega))).trans b1) ((ae _ (f _ (by omega))).trans b5)
  ⟨⟨by omega,by omega⟩,⟨by omega,by omega⟩,⟨by omega,by omega⟩,fun a k hn=>by have:=ag a k hn;omega⟩ (Xa de fun a k hn=>ae _ (f _ (.inl (by rw [m];exact ag a k hn)))) rfl rfl rfl fun ex I ef dh da dc d3 bg dx cu ck ba fc=>?_
 clear f1 f3 f4 f6 f9 f10
 obtain ⟨f1,f3,f4,f6,f9,f10⟩:=d3
 have bd:∀b∈X,NC I b=NC G0 b:=fun b hb=>(ba b (by have:=u b hb;omega) (by have:=u b hb;omega)).trans (ae b hb)
 have ea:=fun Z=>(NZ.refl.app (X:=Z)).cells ((bd h0 (f _ (by omega))).trans b0)
 have eb:=fun Z=>(NZ.refl.app (X:=Z)).cells ((bd (h0+1) (f _ (by omega))).trans b1)
 refine NI ?_
 simp only [n39,OC,f3,f4,f6,ea,eb,SB,seval,NE,NG]
 refine Zn ?_
 rw [Wo,YD]
 try simp only [Na]
 obtain ⟨g,t⟩:∃g,g=I++[Vc (netV pp2 np cpn pl L.length cl),Vc [Vi to],Vc [Vi dl]]:=⟨_,rfl⟩
 have e0:NC g I.length=Vc (netV pp2 np cpn pl L.length cl):=by rw [t];exact NQ
 have e1:NC g (I.length+1)=Vc [Vi to]:=by rw [t];exact OM
 have e2:NC g (I.length+2)=Vc [Vi dl]:=by rw [t];exact OM
 have ew:g.length=I.length+3:=by rw [t];simp
 have bc:∀b,b<I.length->NC g b=NC I b:=fun b hb=>by rw [t];exact NJ hb
 obtain ⟨X4,aj⟩:∃X4,X4=[I.length,I.length+1,I.length+2]:=⟨_,rfl⟩
 have aq:∀b∈X4,I.length<=b/\b<g.length:=fun b hb=>by rw [aj] at hb;simp at hb;omega
 have ei:=ND bg.os.ou
 have bh:JS (h0+3) Bo X4 g (.slice ah SL.length ai) (.map (some (h0+2))) Vz Vz Vz (Vi 0) ef dh co da dc (PH SL 2++Sg SL to dl s):=by
  rw [t]
  refine bg.more _ fun b hb=>.inr ?_
  have:=aq b hb
  simp only [Nk,Nl];omega
 have F:∀b∈X,NC g b=NC G0 b:=fun b hb=>(bc b (by have:=u b hb;omega)).trans (bd b hb)
 rw [<-t]
 have fj:=Z8 (PL:=SL) (to:=to) (dl:=dl) (s:=s)
 have ep:(PH SL 2++Sg SL to dl s).length<=SL.length+s.length:=by rw [Nb];omega
 refine Nq5 (M:=h0+2) (Bn:=h0) (Bt:=h0+1) (Bg:=h0+4) (Bf:=h0+5) (X:=X4) (Kk:=X4++List.range h0) (Bd2:=I.length+2) (Bn2:=I.length) (Bt2:=I.length+1) (np:=np) (cpn:=cpn) (cl:=cl) (pp2:=pp2) (pl:=pl) (L:=L) (to:=to) (dl:=dl) (ps:=ps) (ns:=s.length) (cs:=cs) ⟨f1,f3,f4,f6,f9,f10⟩ bh (by omega)
  ((bc _ (by omega)).trans ((ba (h0+2) (by omega) (by omega)).trans bm)) (by omega) W (fun c hc=>⟨y.from' c hc,y.dest c hc⟩) dx cu ck (by omega)
  ((F _ (f _ (by omega))).trans b4) ((F _ (f _ (by omega))).trans b1) ((F _ (f _ (by omega))).trans b5) ⟨⟨by omega,by omega⟩,⟨by omega,by omega⟩,⟨by omega,by omega⟩⟩
  (fun b hb=>by
   rcases Nv.1 hb with hb | hb
   ·exact ⟨(aq b hb).2,.inr hb⟩
   ·rw [List.mem_range] at hb
    exact ⟨by omega,.inl ⟨by omega,by omega⟩⟩) rfl e2 e0 e1
  (Xa dd fun a k hn=>F _ (f _ (.inl (by rw [m];exact O a k hn)))) ⟨by rw [aj];simp,by rw [aj];simp,by rw [aj];simp,fun a k hn=>N1 _ (List.mem_range.2 (by rw [m];exact O a k hn))⟩ hF (by omega) bu bw fun G5 ao bf db z pw cw P a4 az cm aa bz fe av=>?_
 have be:∀b∈X,NC G5 b=NC G0 b:=fun b hb=>(bz b (by have:=u b hb;omega) (.inl (by have:=u b hb;omega))).trans (F b hb)
 have ec:=fun Z=>(NZ.refl.app (X:=Z)).cells ((be (h0+4) (f _ (by omega))).trans b4)
 have ej:=ND P.os.ou
 have a2:∀b,b<Bo->b≠h0+3->NC G5 b=NC G3 b:=fun b q1 q2=>(bz b (by omega) (.inl ⟨q1,q2⟩)).trans ((bc b (by omega)).trans (ba b q1 q2))
 have a1:Own (h0+3+1) G5 enc2 2 ah ai SL:=RJ J fun a k=>a2 _ (a0 a k) (by have:=(J.block k).1;omega)
 refine NI ?_
 rw [show ∀(a b c d e:AItem),[a,b,c,d]++[e]=[a,b,c,d,e] from fun _ _ _ _ _=>rfl]
 simp only [n39,f9,ec,SB,seval,NE,NG]
 try simp only [Na]
 refine Nyc P (by omega) a1 az (by omega) d5 fun G6 Lv du dp dv ap bk ce ff=>?_
 refine NI ?_
 simp only [n39,SB,seval,NG]
 try simp only [Na]
 have en:(RL SL to dl s (NN L to dl)).length<=SL.length+s.length+(NN L to dl).length:=by
  unfold RL;rw [Nb,WJ];omega
 have V:∀x∈s,0<=x.gr:=fun x hx=>(ac x hx).2.2.1
 have ak:∀c∈NN L to dl,0<=c.1.grams/\c.1.grams<=1000000000:=fun c hc=>by
  have:=(U c hc).1
  unfold Fine at this;omega
 have bt:Me s<VW:=by
  have:=Nho (s:=s) fun x hx=>(ac x hx).2.2.2
  show Me s<1152921504606846976
  omega
 have d9:∀b∈QC pw,g.length+2<=b/\b<G5.length:=fun b hb=>by obtain ⟨a,k,rfl⟩:=NU.1 hb;exact aa.block k
 have dq:FSq (h0+3) Bo (G5.length+1) G5.length z.length z.length co ((G5.length+1)::G5.length::(QC pw++X4)) G6 (.slice ah SL.length ai) (.map (some (h0+2))) (.slice pw (NN L to dl).length cw) ao bf db z Lv (RL SL to dl s (NN L to dl)):=by
  refine ⟨?_,by simp,by simp,by omega,dv,ap,dp⟩
  rw [ap,Yd (v:=1) fun p hp=>(TV y V (fun c hc=>(ak c hc).1) hp).2.2.2]
  refine P.add du fun b hb=>?_
  rw [Nu,Nu] at hb
  rcases hb with rfl | rfl | hb
  ·exact .inr (by omega)
  ·exact .inr (by omega)
  ·exact .inl hb
 have an:∀b,b<=Bo->b∉QC ao:=fun b hb hm=>by
  obtain ⟨a,k,rfl⟩:=NU.1 hm
  have:=(P.ar.block k).1;omega
 have ee:∀b∈X,NC G6 b=NC G0 b:=fun b hb=>(ce b (by have:=u b hb;omega) (by have:=u b hb;omega)).trans (be b hb)
 refine Nyx (n:=SL.length+2) (S:=YU SL noT) (Bnn:=h0) (Bt:=h0+1) (Bg:=h0+4) (Bf:=h0+5) (ps:=ps) (ns:=s.length) (cs:=cs) (dl:=dl) ⟨f1,f3,f4,f6,f9,f10⟩ dq (by omega) ⟨by omega,by omega⟩ a4 (Njo y V fun c hc=>(ak c hc).1) (by omega) (by omega) (by omega) (fun v=>by have:=cm v;have e:(PH SL 2++Sg SL to dl s++Tu SL to (NN L to dl)).length=(RL SL to dl s (NN L to dl)).length:=rfl;omega) (fun i hi=>Nq9 y (fun x hx=>(ac x hx).2.2) ak hi) (N39 bk) rfl rfl ?_ (by rw [Yd (v:=1) fun p hp=>(TV y V (fun c hc=>(ak c hc).1) hp).2.2.2];exact Oc _)
  ((ee _ (f _ (by omega))).trans b4) ⟨by omega,by omega,an _ (by omega),by omega⟩ rfl fun ey R X7 dg df dm di L7 l7 d4 fi K N aw ay Y d7 fg=>?_
 ·rw [ML rfl y]
  unfold wt
  rw [Nbs]
  have:=Ml (T:=noT) (dl:=dl) V
  omega
 clear f1 f3 f4 f6 f9 f10
 obtain ⟨f1,f3,f4,f6,f9,f10⟩:=d4
 have w:∀b,b<G5.length->b≠h0+3->b∉QC ao->NC R b=NC G5 b:=fun b q1 q2 q3=>(d7 b (by omega) q2 q3 (by omega)).trans (ce b q1 q2)
 have bb:∀b,b<Bo->b≠h0+3->NC R b=NC G3 b:=fun b q1 q2=>(w b (by omega) q2 (an b (by omega))).trans (a2 b q1 q2)
 have c5:∀b∈X,NC R b=NC G0 b:=fun b hb=>(w b (by have:=u b hb;omega) (by have:=u b hb;omega) (an b (by have:=u b hb;omega))).trans (be b hb)
 have ed:=(c5 (h0+4) (f _ (by omega))).trans b4
 have d1:NC R j.length=.dfr:=(bb _ (by omega) (by omega)).trans ((bx _ (by simp)).trans au)
 have d2:NC R g.length=.dfr:=(w _ (by omega) (by omega) (Nnq P.ar av)).trans av
 have dn:NC (R.set g.length .dead) j.length=.dfr:=by rw [OU (by omega)];exact d1
 simp only [n39,r39,f9,ed,d2,dn,show lim<=g.length by omega,show lim<=j.length by omega,SB,seval,NG,NH]
 have k8:∀b,b≠j.length->b≠g.length->NC ((R.set g.length .dead).set j.length .dead) b=NC R b:=fun b q1 q2=>by rw [OU q1,OU q2]
 have ad:∀b ro c,NC R b=.cells ro c->NC ((R.set g.length .dead).set j.length .dead) b=.cells ro c:=fun b ro c hb=>by
  rw [k8 b (fun e=>by rw [e,d1] at hb;cases hb) fun e=>by rw [e,d2] at hb;cases hb];exact hb
 have cx:Sl R enc2 2 ah SL:=(RJ a1 fun a k=>by
  have:=a0 a k
  exact w _ (by omega) (by have:=(J.block k).1;omega) (an _ (by omega))).sl PN
 have cy:Sl R Vr 11 pw (Tz (2*(PH SL 2++Sg SL to dl s).length) (NN L to dl)):=(RJ aa fun a k=>by
  have hm:a.block∈QC pw:=NU.2 ⟨a,k,rfl⟩
  have:=d9 _ hm
  exact w _ this.2 (by omega) (P.ax _ (Nz _ hm)).1).sl SK
 refine hQ _ (h0+3) SL L7 l7 z dg ai bf dm cw ah ao pw (.map (some (h0+2))) (.slice (Sa Bo) z.length co) (.slice (Sa df) z.length di) ⟨ad _ _ _ K.js.hdr,by omega,fun b hb=>?_,by simp;omega,cx.sim ad,(K.js.ar.sl PN).sim ad,ad _ _ _ K.lb,cy.sim ad,by rw [K.len];exact az,y,by omega,ci,N,aw,a4.alike N,ay,Y, ?_⟩
 ·rw [k8 b (by omega) (by omega),c5 b (f _ (by omega))];exact bo b (by omega)
 ·exact Ntd y N aw (a4.alike N) ay Y V (fun c hc=>(U c hc).1) bt
structure AllOk (P:List Int) (L:List Leg) (s:List Flow.Src) (to dl:Int):Prop where
 net:NetOk 50 P L (Nk7 P)
 to':to∈P
 d0:0<=dl
 d1:dl<=OQ
 ns:s.length<=50
 src:∀x∈s,SOk P x
theorem Sy {P:List Int} {L:List Leg} {s:List Flow.Src} {to dl:Int} (h:OD P L s to dl=0):AllOk P L s to dl:=by
 unfold OD at h
 by_cases h1:PY P L=0
 case neg=>rw [Nh h1] at h;exact absurd h h1
 rw [Nf (by simpa using h1)] at h
 by_cases h2:to∈P/\0<=dl/\dl<=OQ
 case neg=>rw [Nh h2] at h;cases h
 rw [Nf (by simpa using h2)] at h
 by_cases a:50<s.length
 case pos=>rw [Nh a] at h;cases h
 rw [Nf a] at h
 by_cases b:∀x∈s,SOk P x
 case neg=>rw [Nf b] at h;cases h
 exact ⟨Npb h1,h2.1,h2.2.1,h2.2.2,by omega,b⟩
noncomputable def We (s:List Flow.Src) (C:List (Leg×Int)) (to dl:Int):Int:=Classical.epsilon fun v=>∃T,BestC s C to dl T v
noncomputable def VL (s:List Flow.Src) (C:List (Leg×Int)) (to dl:Int):Int->Option Int:=Classical.epsilon fun T=>BestC s C to dl T (We s C to dl)
theorem Njb {s:List Flow.Src} {C:List (Leg×Int)} {to dl v:Int} {T:Int->Option Int} (h:BestC s C to dl T v):BestC s C to dl (VL s C to dl) (We s C to dl):=
 Classical.epsilon_spec (Classical.epsilon_spec (p:=fun v=>∃T,BestC s C to dl T v) ⟨v,T,h⟩)
theorem SF {s:List Flow.Src} {C:List (Leg×Int)} {to dl v:Int} {T:Int->Option Int} (h:BestC s C to dl T v):v=We s C to dl/\T=VL s C to dl:=by
 obtain ⟨h1,h2⟩:=h.uniq (Njb h)
 exact ⟨h1,funext h2⟩
theorem PQ.out [OB] {af:AFunc} {lim:Nat} {k:List AItem} {fr:Nat->Value} {H:NA} {p:Prop} (h:PQ E af lim k fr H fun _ _=>p):p:=by
 obtain ⟨n,L,h1,h2,a⟩:=h
 obtain ⟨x,rfl⟩:=h2 rfl
 exact a x (by simp)
theorem RU {P:List Int} {L:List Leg} {s:List Flow.Src} {to dl:Int} (a:OD P L s to dl=0):PY P L=0:=by
 apply Ns
 intro hc
 unfold OD at a
 rw [Nh hc] at a;exact hc a
theorem Nxl {H G:NA} {A:Nat} {P:List Int} {L:List Leg} {s:List Flow.Src} {to dl:Int} {SL:List (Int×Int)} {Lv:List Int} {l:List Pr} {out:List (List Nat)} {Lb cp ca cv cw:Nat} {pp pa pw:Option Addr} {vm vo v5:Value} (h:Built H G A s (NN L to dl) to dl SL Lv l out Lb cp ca cv cw pp pa pw vm vo v5) (a:AllOk P L s to dl):∀p t,firstT (RH Lv) SL 2 p=some t->0<=t/\t<=OQ/\p∈P:=fun p t n=>by
 obtain ⟨j,h1,h2,_⟩:=Vg n
 have m:=a.d1
 rcases h.mem _ (PW h1) with ⟨x,o,e⟩ | ⟨c,hc,e⟩
 ·rw [h2] at e
  cases e
  obtain ⟨g1,g,i,_⟩:=a.src x o
  exact ⟨g,i,g1⟩
 ·obtain ⟨b,q,d,f,r,u,v⟩:=QR hc
  have k:=a.net.fine _ b
  unfold Fine at k
  unfold goes at f
  simp only [Ob,N3] at f
  rw [h2] at e
  rcases e with e | e<;>cases e
  ·exact ⟨by omega,by omega,a.net.frm _ b⟩
  ·exact ⟨by omega,by omega,a.net.dst _ b⟩
noncomputable def Nag (P:List Int) (L:List Leg) (s:List Flow.Src) (to dl:Int):Int:=if OD P L s to dl=0 then We s (NN L to dl) to dl else 0
section
variable {pp pl ps:Option Addr} {P:List Int} {L:List Leg} {s:List Flow.Src} {cp cl cs:Nat} {to dl:Int} {H:NA}
theorem Nja [OB] {R:Value->NA->Prop} (hn:NetIn H pp pl P L) (e:Sl H encS 3 ps s) (c:s.length<2 ^ 63) (d:PY P L=0->L.length<=8)
  (f:∀v G,(OD P L s to dl≠0->v=0)->(OD P L s to dl=0->∃T,BestC s (NN L to dl) to dl T v/\∀p t,T p=some t->0<=t/\t<=OQ/\p∈P)->R (.tuple #[Vi v,Vi (OD P L s to dl)]) G) :
  PQ E a17 H.length [.code a17.body] (NK [.agg (netV pp P.length cp pl L.length cl).toArray,.slice ps s.length cs,Vi to,Vi dl]) (H++[]) R:=by
 rw [b17,c17]
 have g:H.length<=H.length:=Ng _
 by_cases a:OD P L s to dl=0
 case neg=>
  simp only [n17,r17,OC,TS (hn.app _) (e.app _) c,Nm a,SB,seval,NE,NG,NF,NK,place,NB,NH]
  exact f 0 _ (fun _=>rfl) (fun h=>absurd h a)
 have b:=Sy a
 simp only [n17,OC,TS (hn.app _) (e.app _) c,a,SB,seval,NE,NG,NF,NK,place,NB]
 refine Ndi (by simp) (e.app _) (hn.app _).sl b.net.fine (d (RU a)) b.d0 b.d1 (by have:=b.ns;omega) (fun x i=>(b.src x i).2) fun G A SL Lv l out Lb cp ca cv cw k pa pw vm vo v5 hB=>?_
 have j:=fun Z=>(NZ.refl.app (X:=Z)).cells hB.hdr
 refine NI ?_
 simp only [n17,r17,j,SB,seval,NG,NH]
 rw [<-a]
 exact f _ _ (fun h=>absurd a h) (fun _=>⟨_,hB.best,Nxl hB b⟩)
theorem Noy [OB] (hn:NetIn H pp pl P L) (d:Sl H encS 3 ps s) (b:s.length<2 ^ 63) (a:PY P L=0->L.length<=8) (c:OD P L s to dl=0):BestC s (NN L to dl) to dl (VL s (NN L to dl) to dl) (We s (NN L to dl) to dl)/\∀p t,VL s (NN L to dl) to dl p=some t->0<=t/\t<=OQ/\p∈P:=by
 have:∃v T,BestC s (NN L to dl) to dl T v/\∀p t,T p=some t->0<=t/\t<=OQ/\p∈P:=PQ.out (Nja (R:=fun _ _=>∃v T,BestC s (NN L to dl) to dl T v/\∀p t,T p=some t->0<=t/\t<=OQ/\p∈P) (cp:=0) (cl:=0) (cs:=0) hn d b a fun v G _ h=>⟨v,h c⟩)
 obtain ⟨v,T,h,h2⟩:=this
 exact ⟨Njb h,by rw [<-(SF h).2];exact h2⟩
theorem Nz1 [OB] (hn:NetIn H pp pl P L) (d:Sl H encS 3 ps s) (b:s.length<2 ^ 63) (a:PY P L=0->L.length<=8) (c:OD P L s to dl=0):BestC s (NN L to dl) to dl (VL s (NN L to dl) to dl) (We s (NN L to dl) to dl):=(Noy hn d b a c).1
theorem Nnv [OB] {mp:Bool} {lim:Nat} {Q:Value->NA->Prop} (hn:NetIn H pp pl P L) (e:Sl H encS 3 ps s) (c:s.length<2 ^ 63) (b:PY P L=0->L.length<=8) :
  NR E mp lim 17 [.agg (netV pp P.length cp pl L.length cl).toArray,.slice ps s.length cs,Vi to,Vi dl] H Q=Q (.tuple #[Vi (Nag P L s to dl),Vi (OD P L s to dl)]) H:=by
 refine pc (by decide) e17 rfl rfl (Nja hn e c b fun v G h1 h2=>?_)
 unfold Nag
 by_cases a:OD P L s to dl=0
 ·obtain ⟨T,d,_⟩:=h2 a
  rw [Nh a,(SF d).1]
 ·rw [Nf a,h1 a]
end
end Go.Proofs.YtohnaffmcjbpoaaGreat.Fn


namespace Go.Flow
open Go.AM Go.Net
structure Ld where
 leg:Int
 dep:Int
 arr:Int
 gr:Int
 deriving DecidableEq,Inhabited
def RD (a b:Ld):Prop:=a.dep<b.dep\/a.dep=b.dep/\a.leg<b.leg
instance (a b:Ld):Decidable (RD a b):=by unfold RD;infer_instance
def Tv (c:Leg×Int):Ld:=⟨c.1.id,c.2,c.2+c.1.mins,c.1.grams⟩
def WO (T:Int->Option Int) (c:Leg×Int):Bool:=!late T c.1.frm (c.2-c.1.cut)&&late T c.1.dst (c.2+c.1.mins)
def TF (T:Int->Option Int) (C:List (Leg×Int)):List Ld:=(C.filter (WO T)).map Tv
theorem Nl5 {a b:Ld} (h1:¬RD a b) (h2:¬RD b a):a.dep=b.dep/\a.leg=b.leg:=by
 unfold RD at *;omega
theorem XN:∀{a b:List Ld},a.Perm b->a.Pairwise (fun x y=>¬RD y x)->b.Pairwise (fun x y=>¬RD y x)->(∀x∈a,∀y∈a,x.dep=y.dep->x.leg=y.leg->x=y)->a=b
 | [],b,h,_,_,_=>h.nil_eq
 | x::a,[],h,_,_,_=>absurd h.length_eq (by simp)
 | x::a,y::b,h,h1,h2,hx=>by
   obtain ⟨p1,p2⟩:=List.pairwise_cons.1 h1
   obtain ⟨q1,q2⟩:=List.pairwise_cons.1 h2
   have e:x=y:=by
    rcases Nu.1 (h.mem_iff.1 Nn) with e | hm
    ·exact e
    rcases Nu.1 (h.mem_iff.2 (Nn (a:=y))) with e | hm2
    ·exact e.symm
    obtain ⟨e1,e2⟩:=Nl5 (q1 x hm) (p1 y hm2)
    exact (hx y (Ni _ hm2) x Nn e1.symm e2.symm).symm
   subst e
   rw [XN ((List.perm_cons x).1 h) p2 q2 fun y c z d=>hx y (Ni _ c) z (Ni _ d)]
end Go.Flow
namespace Go.Proofs.YtohnaffmcjbpoaaGreat.Fn
open Go.AM Go.AM.Sym Go.Net Go.Flow Go.Sort
def QJ (x:Flow.Ld):List Value:=[Vi x.leg,Vi x.dep,Vi x.arr,Vi x.gr]
theorem NV (x:Flow.Ld):(QJ x).length=4:=id rfl
theorem Sq {x:Flow.Ld}:(QJ x)[0]? = some (Vi x.leg):=id rfl
theorem Sn {x:Flow.Ld}:(QJ x)[1]? = some (Vi x.dep):=id rfl
theorem Tx {x:Flow.Ld}:(QJ x)[2]? = some (Vi x.arr):=id rfl
theorem Ug {x:Flow.Ld}:(QJ x)[3]? = some (Vi x.gr):=id rfl
instance sortL [OB]:Srt.SortAt E zL:=⟨rfl,kn rfl rfl (by decide),kn rfl rfl (by decide),kn rfl rfl (by decide),kn rfl rfl (by decide),kn rfl rfl (by decide),kn rfl rfl (by decide),kn rfl rfl (by decide),kn rfl rfl (by decide),kn rfl rfl (by decide),kn rfl rfl (by decide),kn rfl rfl (by decide),kn rfl rfl (by decide),kn rfl rfl (by decide),kn rfl rfl (by decide),kn rfl rfl (by decide),kn rfl rfl (by decide),kn rfl rfl (by decide),kn rfl rfl (by decide)⟩
instance encDL:Srt.EncOk QJ zL:=⟨fun _=>rfl⟩
def Nmq (a b:Flow.Ld):Int:=orL [UE a.dep b.dep,UE a.leg b.leg]
theorem Xt [OB] (mp:Bool) (lim:Nat) (a b:Flow.Ld) (H:NA) (Q:Value->NA->Prop):NR E mp lim 41 [.agg (QJ a).toArray,.agg (QJ b).toArray] H Q=Q (Vi (Nmq a b)) H:=by
 refine pc (by decide) e41 rfl rfl ?_
 rw [b41,c41]
 simp only [n41,r41,QJ,Nmp,Nld,Ww,WC,Wi,Zd,XT,Za,Nat.reducePow,SB,seval,NE,NG,NK,place,NB,NH]
 rfl
theorem Ndb {a b:Flow.Ld}:Nmq a b<0↔RD a b:=by
 have e0:Nmq a b=if UE a.dep b.dep≠0 then UE a.dep b.dep else if UE a.leg b.leg≠0 then UE a.leg b.leg else 0:=rfl
 rw [e0]
 unfold RD
 rcases Qi a.dep b.dep with h | h | h
 ·rw [Zp h];simp [h]
 ·rw [Zq h]
  rcases Qi a.leg b.leg with h2 | h2 | h2
  ·rw [Zp h2];simp [h,h2]
  ·rw [Zq h2];simp [h,h2]
  ·rw [Zo h2];simp [h];omega
 ·rw [Zo h];simp;omega
theorem Nbk {a b:Flow.Ld}:Srt.ltC Nmq a b=decide (RD a b):=by
 unfold Srt.ltC
 rw [Qw,N3,N3]
 exact Ndb
theorem Nxa:SWO (Srt.ltC Nmq):=by
 refine ⟨fun x=>?_,fun x y z h1 h2=>?_,fun x y z h1 h2=>?_⟩
 ·rw [Nbk];simp [RD]
 ·rw [Nbk,N3] at h1 h2⊢
  unfold RD at *;omega
 ·rw [Nbk,decide_eq_false_iff_not] at h1 h2⊢
  unfold RD at *;omega
theorem Nh8 [OB] {α:Type} [Inhabited α] {enc:α->List Value} {iz:Srt.Ids} {c:α->α->Int} {cl:FuncId} {lim cp:Nat} {pp:Option Addr} {lo:Nat} {PL:List α} {G:NA} {Q:Value->NA->Prop} [Srt.SortAt E iz] [Srt.EncOk enc iz] (hc:∀(mp:Bool) (lim:Nat) (x y:α) (H:NA) (Q:Value->NA->Prop),NR E mp lim cl [.agg (enc x).toArray,.agg (enc y).toArray] H Q=Q (Vi (c x y)) H) (hS:SWO (Srt.ltC c)) (t:Own lo G enc iz.e pp cp PL) (u:lim<=lo) (hn:PL.length<65536)
  (q:∀G' SL,Own lo G' enc iz.e pp cp SL->SL.Perm PL->SL.Pairwise (fun x y=>Srt.ltC c y x=false)->(∀b,b<G.length->b∉QC pp->NC G' b=NC G b)->G.length<=G'.length->Q (.tuple #[]) G') :
  NR E false lim iz.SORT [.slice pp PL.length cp,.func (.func cl) #[] #[]] G Q:=by
 rcases t with ⟨r,rfl,rfl⟩ | ⟨R,rfl,rfl,l,m⟩
 ·subst r
  have v:NR E false lim iz.SORT [Vz,.func (.func cl) #[] #[]] G Q=Q (.tuple #[]) G:=Srt.sort_nil (iz:=iz) (cs:=[])
  rw [Nl,v]
  exact q G [] .nil (List.Perm.refl _) List.Pairwise.nil (fun _ _ _=>rfl) (Ng _)
 ·obtain ⟨d,Y,h1,h2,s,h⟩:=Srt.sort_ok (E:=E) (iz:=iz) (enc:=enc) (X:=[]) (G:=G) (B:=R) (lim:=lim) (cap:=loose iz.e) (n:=PL.length) (p:=Sa R) (c:=c) (cl:=cl) (cs:=[]) rfl (ND l) (by omega) (by omega) (fun mp lim x y H Q=>hc mp lim x y H Q) hS (by omega) (d:=PL.toArray) (by simp)
  rw [Nkl l] at h
  have hp:d.toList.Perm PL:=Nck (d:=PL.toArray) (n:=PL.length) (by simp) h2
  simp only [Oa,Na] at h
  have k:NR E false lim iz.SORT [.slice (Sa R) PL.length (loose iz.e),.func (.func cl) #[] #[]] G Q=Q (.tuple #[]) (DH enc G R d++Y):=h Q
  rw [k]
  have a:=ND l
  have g:Mut G (DH enc G R d) R:=⟨by simp [DH],fun j f=>OU f⟩
  refine q _ d.toList (.inr ⟨R,rfl,rfl, ?_,m⟩) hp ?_ (fun b w hn=>?_) (by have:=g.len;simp;omega)
  ·rw [NJ (by have:=g.len;omega)]
   have:=Nd5 (X:=[]) (enc:=enc) (d:=d) a
   rw [Na] at this
   exact this
  ·rw [N5]
   intro i j hi f o
   have q1:=s i j (Nx _) o (by simpa [h1] using f)
   have e1:d[i]! = d.toList[i]:=by rw [getElem!_pos d i (by simpa using hi)];simp
   have e2:d[j]! = d.toList[j]:=by rw [getElem!_pos d j (by simpa using f)];simp
   rw [e1,e2] at q1
   exact q1
  ·rw [NJ (by have:=g.len;omega)]
   exact g.other b fun e=>hn (NU.2 ⟨_,rfl,e.symm⟩)
theorem Nh7 [OB] {lim cp:Nat} {pp:Option Addr} {lo:Nat} {PL:List Flow.Ld} {G:NA} {Q:Value->NA->Prop} (f:Own lo G QJ 4 pp cp PL) (a:lim<=lo) (hn:PL.length<65536)
  (g:∀G' SL,Own lo G' QJ 4 pp cp SL->SL.Perm PL->SL.Pairwise (fun x y=>¬RD y x)->(∀b,b<G.length->b∉QC pp->NC G' b=NC G b)->G.length<=G'.length->Q (.tuple #[]) G') :
  NR E false lim 40 [.slice pp PL.length cp,.func (.func 41) #[] #[]] G Q:=
 Nh8 (iz:=zL) Xt Nxa f a hn fun G' SL h1 h2 c d e=>g G' SL h1 h2 (c.imp fun h=>by rw [Nbk,decide_eq_false_iff_not] at h;exact h) d e
def kI (k:Int):Value:=Vi k
theorem N4d:No5 kI:=fun a b=>by
 simp only [kI,VI,if_true,Option.some.injEq]
 by_cases h:a=b<;>simp [h]
theorem fkI {p:Int} {es:List (Int×Int)}:findKey (Vi p) (Sw kI vI es) 0=some ((fk p es 0).map fun x=>(x.1,Vi x.2)):=TP (vv:=vI) N4d p es 0
end Go.Proofs.YtohnaffmcjbpoaaGreat.Fn


namespace Go.Flow
open Go.AM Go.Net
theorem Nar {lv:Nat->Int} {x:Int×Int} {p:Int}:∀{PL:List (Int×Int)} {i:Nat},firstT lv (PL++[x]) i p=match firstT lv PL i p with | some t=>some t | none=>if x.1=p/\0<=lv (i+PL.length) then some x.2 else none
 | [],i=>by simp [firstT]
 | y::PL,i=>by
   rw [Oe]
   unfold firstT
   by_cases h:y.1=p/\0<=lv i
   ·rw [Nh h,Nh h]
   ·rw [Nf h,Nf h,Nar,Nk,show i+1+PL.length=i+(PL.length+1) by omega]
end Go.Flow
namespace Go.Proofs.YtohnaffmcjbpoaaGreat.Fn
open Go.AM Go.AM.Sym Go.Net Go.Flow
structure BQ (fr:Nat->Value) (B4 B8 A R:Nat):Prop where
 f4:fr 4=Vp B4
 f8:fr 8=Vp B8
 f11:fr 11=Vp A
 f12:fr 12=.map (some R)
theorem UK {G:NA} {R:Nat} {es:List (Value×Value)} (h:NC G R=.map es):R<G.length:=by
 rcases Oo R G.length with h1 | h1
 ·exact h1
 ·unfold NC at h;rw [Nc,N9 h1] at h;cases h
theorem Nzf [OB] {lim A R B4 B8 Lb cp cv:Nat} {G:NA} {fr:Nat->Value} {pp:Option Addr} {SL:List (Int×Int)} {Lv:List Int} {v1 v2 v3 v5 v6 v7:Value} {K:List AItem} {Q:Value->NA->Prop}
  (F:BQ fr B4 B8 A R) (B:NC G A=Vc [.slice pp SL.length cp,v1,v2,v3,.slice (Sa Lb) Lv.length cv,v5,v6,v7]) (sp:Sl G enc2 2 pp SL) (C:NC G Lb=Vc (Lv.flatMap encI)) (ll:Lv.length=SL.length+2) (aa:SL.length<2 ^ 40) (u:NC G R=.map []) (H:lim<=R)
  (d:fr 50=.slice pp SL.length cp) (b:fr 51=Vi SL.length) (f:fr 52=Vi 0)
  (Y:∀fr' G' es,BQ fr' B4 B8 A R->(∀p,TN p es=firstT (RH Lv) SL 2 p)->NC G' R=.map (Sw kI vI es)->Chg [R] G G'->PQ E a18 lim K fr' G' Q) :
  PQ E a18 lim (.code (.loop Nvu)::.inBlock 0::K) fr G Q:=by
 refine NL (fun z:Nat×List (Int×Int)=>SL.length-z.1) (fun z fr G'=>z.1<=SL.length/\BQ fr B4 B8 A R/\fr 50=.slice pp SL.length cp/\fr 51=Vi SL.length/\fr 52=Vi z.1/\(∀p,TN p z.2=firstT (RH Lv) (SL.take z.1) 2 p)/\NC G' R=.map (Sw kI vI z.2)/\Chg [R] G G') (0,[])
  ⟨Nx _,F,d,b,f,fun p=>rfl,u,Chg.refl⟩ ?_
 rintro ⟨j,es⟩ fr G' ⟨O,F,d,b,f,n,l,o⟩ D
 simp only at O f n l
 obtain ⟨f4,f8,f11,f12⟩:=F
 rw [NP Nvu.eq_1]
 refine NI ?_
 by_cases k:j<SL.length
 case neg=>
  obtain rfl:j=SL.length:=by omega
  rw [Of] at n
  simp only [n18,b,f,k,SB,seval,NG,NF]
  refine Y _ _ es ⟨f4,f8,f11,f12⟩ n ?_ o.app
  rw [Na];exact l
 have nA:A∉[R]:=by
  rw [Nj]
  intro e;rw [e,u] at B;cases B
 have nL:Lb∉[R]:=by
  rw [Nj]
  intro e;rw [e,u] at C;cases C
 have s:Sl G' enc2 2 pp SL:=o.sl sp fun a ha hn=>by
  rw [Nj]
  intro e
  rw [ha] at sp
  obtain ⟨ro,c,k1,_⟩:=sp.2 hn
  rw [e,u] at k1;cases k1
 have L:=fun Z=>(s.app Z).loadCells PN k
 have N:=QM s k rfl
 have T:Sl G' encI 1 (Sa Lb) Lv:=Sl.row (ro:=false) PG (o.cells C nL)
 have J:=Um (i:=j+2) T (by omega)
 rw [Ng0 (by omega)] at J
 have V:=ZM (i:=j+2) T (by omega) rfl
 have P:=fun Z=>(NZ.refl.app (X:=Z)).cells (o.cells B nA)
 have m:=UK l
 have I:∀Z,NC (G'++Z) R=.map (Sw kI vI es):=fun Z=>by rw [NJ m];exact l
 have M:IntKind.i64.wrap ((j:Int)+1)=((j+1:Nat):Int):=NS (by omega)
 have U:IntKind.i64.wrap ((j:Int)+2)=((j+2:Nat):Int):=by rw [NY (by omega) (by omega)];omega
 have g:=fkI (p:=(gt SL j).1) (es:=es)
 have h:=W9 (gt SL j).1 es 0
 have q:lim<=G'.length:=by omega
 have y:∀p,firstT (RH Lv) (SL.take (j+1)) 2 p=match TN p es with | some t=>some t | none=>if (gt SL j).1=p/\0<=RH Lv (j+2) then some (gt SL j).2 else none:=fun p=>by
  rw [QI k,Nar,<-n p,N6,Pw O,Qo 2 j]
 cases hc:fk (gt SL j).1 es 0 with
 | some x=>
   obtain ⟨i,v⟩:=x
   rw [hc] at g h
   simp only [N0] at g h
   simp only [n18,f12,d,b,f,k,L,N,I,M,enc2,q,g,SB,seval,NG,NF,QV,place,NB]
   refine D (j+1,es) _ _ ⟨by show j+1<=_;omega,⟨f4,f8,f11,f12⟩,d,b,rfl,fun p=>?_,by rw [NJ m];exact l,o.app⟩ (by show SL.length-(j+1)<SL.length-j;omega)
   rw [y]
   cases hp:TN p es with
   | some t=>rfl
   | none=>
     rw [Nf fun r=>by rw [r.1,hp] at h;cases h]
 | none=>
   rw [hc] at g h
   simp only [Ou] at g h
   by_cases w:0<=RH Lv (j+2)
   ·obtain ⟨G2,e2,k2,S⟩:=OO m (.map (Sw kI vI es++[(Vi (gt SL j).1,Vi (gt SL j).2)]))
    simp only [n18,f11,f12,d,b,f,k,L,N,J,V,P,I,M,U,enc2,q,g,Nq w,H,e2,SB,seval,NG,NF,QV,place,NB]
    refine D (j+1,es++[(gt SL j)]) _ _ ⟨by show j+1<=_;omega,⟨f4,f8,f11,f12⟩,d,b,rfl,fun p=>?_, ?_,(o.mut S (.inl (by simp))).app⟩ (by show SL.length-(j+1)<SL.length-j;omega)
    ·rw [y]
     have W:es++[(gt SL j)]=XE (gt SL j).1 (gt SL j).2 es:=Ng9 hc
     show TN p (es++[(gt SL j)])=_
     rw [W,XZ]
     by_cases hp:p=(gt SL j).1
     ·subst hp
      rw [Nh rfl,<-h]
      simp [w]
     ·rw [Nf hp]
      cases TN p es with
      | some t=>rfl
      | none=>simp only;rw [Nf fun r=>hp r.1.symm]
    ·rw [NJ (by have:=S.len;omega),k2]
     unfold Sw
     rw [Pi];rfl
   ·simp only [n18,f11,f12,d,b,f,k,L,N,J,V,P,I,M,U,enc2,q,g,Nm w,SB,seval,NG,NF,QV,place,NB]
    refine D (j+1,es) _ _ ⟨by show j+1<=_;omega,⟨f4,f8,f11,f12⟩,d,b,rfl,fun p=>?_,by rw [NJ m];exact l,o.app⟩ (by show SL.length-(j+1)<SL.length-j;omega)
    rw [y]
    cases hp:TN p es with
    | some t=>rfl
    | none=>rw [Nf fun r=>w r.2]
def Sm (T:Int->Option Int) (P:List Int):List Int:=P.map fun p=>(T p).getD (-1)
theorem Ns4 [OB] {lim A R B4 B8 Bc cp2:Nat} {G:NA} {fr:Nat->Value} {pp:Option Addr} {P:List Int} {es:List (Int×Int)} {T:Int->Option Int} {K:List AItem} {Q:Value->NA->Prop}
  (O:BQ fr B4 B8 A R) (sp:Sl G encI 1 pp P) (hp:P.length<2 ^ 40) (F:NC G R=.map (Sw kI vI es)) (N:∀p,TN p es=T p) (f17:fr 17=Vp Bc) (hB:NC G Bc=Vc [Vz,Vz]) (B:lim<=Bc)
  (h:fr 84=.slice pp P.length cp2) (b:fr 85=Vi P.length) (k:fr 86=Vi 0)
  (hK:∀fr' G' p' c',BQ fr' B4 B8 A R->fr' 17=Vp Bc->Own G.length G' encI 1 p' c' (Sm T P)->NC G' Bc=Vc [.slice p' P.length c',Vz]->Chg [Bc] G G'->PQ E a18 lim K fr' G' Q) :
  PQ E a18 lim (.code (.loop Nvv)::.inBlock 2::K) fr G Q:=by
 have aa:=ND hB
 refine NL (fun z:Nat×Option Addr×Nat=>P.length-z.1) (fun z fr G'=>z.1<=P.length/\BQ fr B4 B8 A R/\fr 17=Vp Bc/\fr 84=.slice pp P.length cp2/\fr 85=Vi P.length/\fr 86=Vi z.1/\Own G.length G' encI 1 z.2.1 z.2.2 (Sm T (P.take z.1))/\NC G' Bc=Vc [.slice z.2.1 z.1 z.2.2,Vz]/\Chg [Bc] G G') (0,none,0)
  ⟨Nx _,O,f17,h,b,k,.nil,hB,Chg.refl⟩ ?_
 rintro ⟨j,p1,c1⟩ fr G' ⟨hj,O,f17,h,b,k,w,d,q⟩ hN
 simp only at hj k w d
 obtain ⟨f4,f8,f11,f12⟩:=O
 rw [NP Nvv.eq_1]
 refine NI ?_
 by_cases l:j<P.length
 case neg=>
  obtain rfl:j=P.length:=by omega
  rw [Of] at w
  simp only [n18,b,k,l,SB,seval,NG,NF]
  refine hK _ _ p1 c1 ⟨f4,f8,f11,f12⟩ f17 (w.app _) ?_ q.app
  rw [Na];exact d
 have D:Sl G' encI 1 pp P:=q.sl sp fun a t hn=>by
  rw [Nj]
  intro e
  rw [t] at sp
  obtain ⟨ro,c,k1,k2,k3⟩:=sp.2 hn
  rw [e,hB] at k1
  injection k1 with _ k1
  subst k1
  cases P with
  | nil=>simp at hn
  | cons x P=>
    rw [N2] at k3
    simp only [Nk,Q0,encI,Oe,Oa] at k3 k2
    match h0:a.off with
    | 0=>rw [h0] at k3;cases k3
    | 1=>rw [h0] at k3;cases k3
    | n+2=>rw [h0] at k2;simp at k2;omega
 have lP:=Um D l
 have xP:=ZM D l rfl
 have L:R≠Bc:=fun e=>by rw [e,hB] at F;cases F
 have M:=UK F
 have y:R<G'.length:=by have:=q.len;omega
 have kR:∀Z,NC (G'++Z) R=.map (Sw kI vI es):=fun Z=>by rw [NJ y,q.other R M (by rw [Nj];exact L)];exact F
 have w1:IntKind.i64.wrap ((j:Int)+1)=((j+1:Nat):Int):=NS (by omega)
 have f:=fkI (p:=gt P j) (es:=es)
 have g:=W9 (gt P j) es 0
 rw [N] at g
 have m:(Sm T (P.take j)).length=j:=by unfold Sm;rw [On,N6];omega
 have Y:Sm T (P.take (j+1))=Sm T (P.take j)++[(T (gt P j)).getD (-1)]:=by unfold Sm;rw [QI l,Pi];rfl
 have ad:lim<=G'.length:=by have:=q.len;omega
 have J:=q.len
 have kB:=fun Z=>(NZ.refl.app (X:=Z)).cells d
 obtain ⟨u,o⟩:∃u,u=(T (gt P j)).getD (-1):=⟨_,rfl⟩
 obtain ⟨V,e2,I,U,W,ac,_⟩:=w.step (lim':=lim) (bytes:=8) (by have:=ND hB;omega) PG (by decide) u (by rw [m];unfold OT;omega) (by rw [m];omega) J [Vc [Vi u]] G'.length 1 (by rw [NQ];rfl)
 rw [m] at e2
 simp only [Nk,Nl,Ny,Na] at e2 I W
 have C:NC V Bc=Vc [.slice p1 j c1,Vz]:=(W Bc (ND d) fun a t=>by have:=(w.block t).1;omega).trans d
 obtain ⟨G3,e3,k3,H⟩:=OO (ND C) (Vc [.slice (Sa (G'.length+1)) (j+1) (loose 1),Vz])
 have r:=fun Z=>(NZ.refl.app (X:=Z)).cells C
 have s:OJ lim none 1 8 false (.slice p1 j c1) (.slice (Sa G'.length) 1 1) (G'++[Vc [Vi u]])=some (.slice (Sa (G'.length+1)) (j+1) (loose 1),V++[]):=by rw [Na];exact e2
 cases hc:fk (gt P j) es 0 with
 | some x=>
   obtain ⟨i,v⟩:=x
   rw [hc] at f g
   simp only [N0] at f g
   have S:v=u:=by rw [o,<-g];rfl
   rw [S] at f
   simp only [n18,f12,f17,h,b,k,l,lP,xP,kR,w1,kB,f,s,r,e3,B,SB,seval,NG,NF,QV,place,NB]
   exact hN (j+1,Sa (G'.length+1),loose 1) _ _ ⟨by show j+1<=_;omega,⟨f4,f8,f11,f12⟩,f17,h,b,rfl,by rw [Y,<-o];exact (I.mut H fun a t e=>by cases t;simp only at e;have:=ND d;omega).app _,by rw [Na];exact k3,(((U [Bc] G (by omega) q).mut (by rw [Na];exact H) (.inl (by simp)))).app⟩ (by show P.length-(j+1)<P.length-j;omega)
 | none=>
   rw [hc] at f g
   simp only [Ou] at f g
   have S:u=-1:=by rw [o,<-g];rfl
   rw [S] at s
   simp only [n18,f12,f17,h,b,k,l,lP,xP,kR,w1,kB,f,s,r,e3,B,SB,seval,NG,NF,QV,place,NB]
   exact hN (j+1,Sa (G'.length+1),loose 1) _ _ ⟨by show j+1<=_;omega,⟨f4,f8,f11,f12⟩,f17,h,b,rfl,by rw [Y,<-o];exact (I.mut H fun a t e=>by cases t;simp only at e;have:=ND d;omega).app _,by rw [Na];exact k3,(((U [Bc] G (by omega) q).mut (by rw [Na];exact H) (.inl (by simp)))).app⟩ (by show P.length-(j+1)<P.length-j;omega)
theorem Nml {w:(Leg×Int)×Nat}:(Vr w)[0]? = some (Vi w.1.1.id):=id rfl
theorem Zl {w:(Leg×Int)×Nat}:(Vr w)[1]? = some (Vi w.1.1.frm):=id rfl
theorem Zk {w:(Leg×Int)×Nat}:(Vr w)[2]? = some (Vi w.1.1.dst):=id rfl
theorem Nc4 {w:(Leg×Int)×Nat}:(Vr w)[5]? = some (Vi w.1.1.cut):=id rfl
theorem Nw0 {w:(Leg×Int)×Nat}:(Vr w)[6]? = some (Vi w.1.1.grams):=id rfl
theorem N2q {w:(Leg×Int)×Nat}:(Vr w)[8]? = some (Vi w.1.2):=id rfl
theorem N2p {w:(Leg×Int)×Nat}:(Vr w)[9]? = some (Vi (w.1.2+w.1.1.mins)):=id rfl
theorem Noo {w:(Leg×Int)×Nat}:(Vr w)[10]? = some (Vi w.2):=id rfl
theorem Xn {w:(Leg×Int)×Nat}:((Vr w).drop 8).take 2=[Vi w.1.2,Vi (w.1.2+w.1.1.mins)]:=id rfl
theorem Nbq:∀{C:List (Leg×Int)} {n j:Nat},j<C.length->gt (Tz n C) j=(gt C j,n+2*j)
 | c::C,n,0,_=>rfl
 | c::C,n,j+1,h=>by
   rw [Tz,OV,OV,Nbq (by simpa using h)]
   congr 1;omega
theorem Nuq [OB] {lim A R B4 B8 Bc O cw:Nat} {Y:Value} {G:NA} {fr:Nat->Value} {pw:Option Addr} {C:List (Leg×Int)} {es:List (Int×Int)} {T:Int->Option Int} {K:List AItem} {Q:Value->NA->Prop}
  (hf:BQ fr B4 B8 A R) (sw:Sl G Vr 11 pw (Tz O C)) (hC:∀c∈C,Fine c.1/\0<=c.2/\c.2+c.1.mins<=OQ) (hn:C.length<2 ^ 40) (hR:NC G R=.map (Sw kI vI es)) (ag:∀p,TN p es=T p) (f17:fr 17=Vp Bc) (hB:NC G Bc=Vc [Y,Vz]) (ah:∀a,pw=some a->C≠[]->a.block≠Bc) (S:lim<=Bc)
  (f:fr 108=.slice pw C.length cw) (d:fr 109=Vi C.length) (g:fr 110=Vi 0)
  (hK:∀fr' G' q c k,BQ fr' B4 B8 A R->fr' 17=Vp Bc->k=(TF T C).length->Own G.length G' QJ 4 q c (TF T C)->NC G' Bc=Vc [Y,.slice q k c]->Chg [Bc] G G'->PQ E a18 lim K fr' G' Q) :
  PQ E a18 lim (.code (.loop Nvw)::.inBlock 4::K) fr G Q:=by
 have aj:=ND hB
 refine NL (fun z:Nat×Option Addr×Nat×Nat=>C.length-z.1) (fun z fr G'=>z.1<=C.length/\BQ fr B4 B8 A R/\fr 17=Vp Bc/\fr 108=.slice pw C.length cw/\fr 109=Vi C.length/\fr 110=Vi z.1/\z.2.2.2=(TF T (C.take z.1)).length/\Own G.length G' QJ 4 z.2.1 z.2.2.1 (TF T (C.take z.1))/\NC G' Bc=Vc [Y,.slice z.2.1 z.2.2.2 z.2.2.1]/\Chg [Bc] G G') (0,none,0,0)
  ⟨Nx _,hf,f17,f,d,g,rfl,.nil,hB,Chg.refl⟩ ?_
 rintro ⟨j,q,c1,k⟩ fr G' ⟨hj,hf,f17,f,d,g,B,D,h,o⟩ I
 simp only at hj g B D h
 obtain ⟨f4,f8,f11,f12⟩:=hf
 rw [NP Nvw.eq_1]
 refine NI ?_
 by_cases m:j<C.length
 case neg=>
  obtain rfl:j=C.length:=by omega
  rw [Of] at D B
  simp only [n18,d,g,m,SB,seval,NG,NF]
  refine hK _ _ q c1 k ⟨f4,f8,f11,f12⟩ f17 B (D.app _) ?_ o.app
  rw [Na];exact h
 have ai:(Tz O C).length=C.length:=WI
 have V:Sl G' Vr 11 pw (Tz O C):=o.sl sw fun a J hn=>by
  rw [Nj]
  exact ah a J fun e=>hn (by rw [e];rfl)
 have H:=fun Z=>(V.app Z).loadCells SK (i:=j) (by omega)
 have eW:=Nbq (n:=O) m
 simp only [eW] at H
 have N:=QM V m ai
 have ad:R≠Bc:=fun e=>by rw [e,hB] at hR;cases hR
 have ae:=UK hR
 have ac:=o.len
 have L:∀Z,NC (G'++Z) R=.map (Sw kI vI es):=fun Z=>by rw [NJ (by omega),o.other R ae (by rw [Nj];exact ad)];exact hR
 have M:IntKind.i64.wrap ((j:Int)+1)=((j+1:Nat):Int):=NS (by omega)
 have v:lim<=G'.length:=by omega
 obtain ⟨hF,ak,am⟩:=hC _ (PW m)
 have aa:=hF
 unfold Fine at aa
 have mt:OQ=1051898399:=rfl
 have W:IntKind.i64.wrap ((gt C j).2-(gt C j).1.cut)=(gt C j).2-(gt C j).1.cut:=NY (by omega) (by omega)
 have r:=fkI (p:=(gt C j).1.frm) (es:=es)
 have s:=W9 (gt C j).1.frm es 0
 have b:=fkI (p:=(gt C j).1.dst) (es:=es)
 have l:=W9 (gt C j).1.dst es 0
 rw [ag] at s l
 have w:TF T (C.take (j+1))=TF T (C.take j)++(if WO T (gt C j)=true then [Tv (gt C j)] else []):=by
  unfold TF
  rw [QI m,List.filter_append,Pi,List.filter_cons,List.filter_nil]
  split<;>rfl
 have an:k<=j:=by
  rw [B];unfold TF
  rw [On]
  have:=Rp (WO T) (C.take j)
  rw [N6] at this;omega
 have kB:=fun Z=>(NZ.refl.app (X:=Z)).cells h
 obtain ⟨G2,e2,O2,C2,K2,ao,_⟩:=D.step (lim':=lim) (bytes:=32) (by omega) NV (by decide) (Tv (gt C j)) (by rw [<-B];unfold OT;omega) (by rw [<-B];omega) ac [Vc (Vr (gt C j,O+2*j)),Vc [Vi (gt C j).2,Vi ((gt C j).2+(gt C j).1.mins)],Vc (QJ (Tv (gt C j)))] (G'.length+2) 1 (by rw [OM];rfl)
 rw [<-B] at e2
 simp only [Nk,Nl,Ny,Na,Nat.reduceAdd] at e2 O2 K2
 have U:NC G2 Bc=Vc [Y,.slice q k c1]:=(K2 Bc (ND h) fun a J=>by have:=(D.block J).1;omega).trans h
 obtain ⟨G3,e3,k3,m3⟩:=OO (ND U) (Vc [Y,.slice (Sa (G'.length+3)) (k+1) (loose 4)])
 have F:=fun Z=>(NZ.refl.app (X:=Z)).cells U
 have P:OJ lim none 4 32 false (.slice q k c1) (.slice (Sa (G'.length+2)) 1 1) (G'++[Vc (Vr (gt C j,O+2*j)),Vc [Vi (gt C j).2,Vi ((gt C j).2+(gt C j).1.mins)],Vc [Vi (gt C j).1.id,Vi (gt C j).2,Vi ((gt C j).2+(gt C j).1.mins),Vi (gt C j).1.grams]])=some (.slice (Sa (G'.length+3)) (k+1) (loose 4),G2++[]):=by rw [Na];exact e2
 cases hc:fk (gt C j).1.frm es 0 with
 | none=>
   rw [hc] at r s
   simp only [Ou] at r s
   have t:WO T (gt C j)=false:=by unfold WO Flow.late;rw [<-s];rfl
   cases hc2:fk (gt C j).1.dst es 0 with
   | none=>
     rw [hc2] at b
     simp only [Ou] at b
     simp only [n18,f12,f,d,g,m,H,N,L,M,v,SK,Zl,Zk,Xn,NM,r,b,SB,seval,NG,NF,place,NB]
     exact I (j+1,q,c1,k) _ _ ⟨by show j+1<=_;omega,⟨f4,f8,f11,f12⟩,f17,f,d,rfl,by rw [w,t];simpa using B,by rw [w,t];simpa using D.app _,by rw [NJ (ND h)];exact h,o.app⟩ (by show C.length-(j+1)<C.length-j;omega)
   | some y=>
     obtain ⟨i2,v2⟩:=y
     rw [hc2] at b
     simp only [N0] at b
     simp only [n18,f12,f,d,g,m,H,N,L,M,v,SK,Zl,Zk,Xn,NM,r,b,SB,seval,NG,NF,place,NB]
     exact I (j+1,q,c1,k) _ _ ⟨by show j+1<=_;omega,⟨f4,f8,f11,f12⟩,f17,f,d,rfl,by rw [w,t];simpa using B,by rw [w,t];simpa using D.app _,by rw [NJ (ND h)];exact h,o.app⟩ (by show C.length-(j+1)<C.length-j;omega)
 | some x=>
   obtain ⟨i1,u⟩:=x
   rw [hc] at r s
   simp only [N0] at r s
   by_cases g1:u<=(gt C j).2-(gt C j).1.cut
   case neg=>
    have t:WO T (gt C j)=false:=by unfold WO Flow.late;rw [<-s];simp;omega
    cases hc2:fk (gt C j).1.dst es 0 with
    | none=>
      rw [hc2] at b
      simp only [Ou] at b
      simp only [n18,f12,f,d,g,m,H,N,L,M,W,v,SK,Zl,Zk,Nc4,Xn,NM,r,b,Nm g1,SB,seval,NG,NF,place,NB]
      exact I (j+1,q,c1,k) _ _ ⟨by show j+1<=_;omega,⟨f4,f8,f11,f12⟩,f17,f,d,rfl,by rw [w,t];simpa using B,by rw [w,t];simpa using D.app _,by rw [NJ (ND h)];exact h,o.app⟩ (by show C.length-(j+1)<C.length-j;omega)
    | some y=>
      obtain ⟨i2,v2⟩:=y
      rw [hc2] at b
      simp only [N0] at b
      simp only [n18,f12,f,d,g,m,H,N,L,M,W,v,SK,Zl,Zk,Nc4,Xn,NM,r,b,Nm g1,SB,seval,NG,NF,place,NB]
      exact I (j+1,q,c1,k) _ _ ⟨by show j+1<=_;omega,⟨f4,f8,f11,f12⟩,f17,f,d,rfl,by rw [w,t];simpa using B,by rw [w,t];simpa using D.app _,by rw [NJ (ND h)];exact h,o.app⟩ (by show C.length-(j+1)<C.length-j;omega)
   cases hc2:fk (gt C j).1.dst es 0 with
   | none=>
     rw [hc2] at b l
     simp only [Ou] at b l
     have t:WO T (gt C j)=true:=by unfold WO Flow.late;rw [<-s,<-l];simp;omega
     simp only [n18,f12,f17,f,d,g,m,H,N,L,M,W,v,kB,SK,Nml,Zl,Zk,Nc4,Nw0,Xn,NM,r,b,Nq g1,P,F,e3,S,SB,seval,NG,NF,QV,place,NB]
     exact I (j+1,Sa (G'.length+3),loose 4,k+1) _ _ ⟨by show j+1<=_;omega,⟨f4,f8,f11,f12⟩,f17,f,d,rfl,by rw [w,t,Nh rfl,Nb,<-B];rfl,by rw [w,t,Nh rfl];exact (O2.mut m3 fun a J e=>by cases J;simp only at e;have:=ND h;omega).app _,by rw [Na];exact k3,(((C2 [Bc] G (by omega) o).mut (by rw [Na];exact m3) (.inl (by simp)))).app⟩ (by show C.length-(j+1)<C.length-j;omega)
   | some y=>
     obtain ⟨i2,v2⟩:=y
     rw [hc2] at b l
     simp only [N0] at b l
     by_cases g2:(gt C j).2+(gt C j).1.mins<v2
     ·have t:WO T (gt C j)=true:=by unfold WO Flow.late;rw [<-s,<-l];simp;omega
      simp only [n18,f12,f17,f,d,g,m,H,N,L,M,W,v,kB,SK,Nml,Zl,Zk,Nc4,Nw0,Xn,NM,r,b,Nq g1,Nq g2,P,F,e3,S,SB,seval,NG,NF,QV,place,NB]
      exact I (j+1,Sa (G'.length+3),loose 4,k+1) _ _ ⟨by show j+1<=_;omega,⟨f4,f8,f11,f12⟩,f17,f,d,rfl,by rw [w,t,Nh rfl,Nb,<-B];rfl,by rw [w,t,Nh rfl];exact (O2.mut m3 fun a J e=>by cases J;simp only at e;have:=ND h;omega).app _,by rw [Na];exact k3,(((C2 [Bc] G (by omega) o).mut (by rw [Na];exact m3) (.inl (by simp)))).app⟩ (by show C.length-(j+1)<C.length-j;omega)
     ·have t:WO T (gt C j)=false:=by unfold WO Flow.late;rw [<-s,<-l];simp;omega
      simp only [n18,f12,f,d,g,m,H,N,L,M,W,v,SK,Zl,Zk,Nc4,Xn,NM,r,b,Nq g1,Nm g2,SB,seval,NG,NF,QV,place,NB]
      exact I (j+1,q,c1,k) _ _ ⟨by show j+1<=_;omega,⟨f4,f8,f11,f12⟩,f17,f,d,rfl,by rw [w,t];simpa using B,by rw [w,t];simpa using D.app _,by rw [NJ (ND h)];exact h,o.app⟩ (by show C.length-(j+1)<C.length-j;omega)
theorem Nxq [OB] {lim:Nat} {pp pl ps:Option Addr} {P:List Int} {L:List Leg} {s:List Flow.Src} {cp cl cs:Nat} {to dl:Int} {H:NA} {Q:Value->NA->Prop} (hn:NetIn H pp pl P L) (e:Sl H encS 3 ps s) (a:s.length<2 ^ 63) (b:lim<=H.length) (d:OD P L s to dl≠0)
  (c:∀G,Chg [] H G->Q (.tuple #[.agg #[Vz,Vz],Vi (OD P L s to dl)]) G) :
  NR E false lim 18 [.agg (netV pp P.length cp pl L.length cl).toArray,.slice ps s.length cs,Vi to,Vi dl] H Q:=by
 refine SE (by decide) e18 rfl ?_
 rw [b18,c18]
 refine NI ?_
 simp only [n18,r18,OC,TS (hn.app _) (e.app _) a,Nm d,show lim<=H.length+1 by omega,SB,seval,NE,NG,NF,NK,place,NB,NH]
 exact c _ Chg.refl.app
theorem Nc7 {T:Int->Option Int} {C:List (Leg×Int)}:(TF T C).length<=C.length:=by
 unfold TF
 rw [On]
 exact Rp _ _
theorem bind_ok [OB] {lim:Nat} {pp pl ps:Option Addr} {P:List Int} {L:List Leg} {s:List Flow.Src} {cp cl cs:Nat} {to dl:Int} {H:NA} {Q:Value->NA->Prop} (hn:NetIn H pp pl P L) (hs:Sl H encS 3 ps s) (aj:L.length<=8) (an:P.length<2 ^ 40) (bd:lim<=H.length) (f:OD P L s to dl=0)
  (hQ:∀G pt ct q c SD,Own (H.length+2) G encI 1 pt ct (Sm (VL s (NN L to dl) to dl) P)->Own (H.length+2) G QJ 4 q c SD->SD.Perm (TF (VL s (NN L to dl) to dl) (NN L to dl))->SD.Pairwise (fun x y=>¬RD y x)->Chg [] H G->Q (.tuple #[.agg #[.slice pt P.length ct,.slice q SD.length c],Vi 0]) G) :
  NR E false lim 18 [.agg (netV pp P.length cp pl L.length cl).toArray,.slice ps s.length cs,Vi to,Vi dl] H Q:=by
 have t:=Sy f
 have a2:s.length<2 ^ 63:=by have:=t.ns;omega
 have ah:∀c∈NN L to dl,Fine c.1/\0<=c.2/\c.2+c.1.mins<=OQ:=fun c hc=>by
  obtain ⟨h1,h2,d,_,h3,h4,h5⟩:=QR hc
  have:=t.d1
  exact ⟨t.net.fine _ h1,by omega,by omega⟩
 have bk:=S9 (to:=to) (dl:=dl) t.net.fine
 refine SE (by decide) e18 rfl ?_
 rw [b18,c18]
 refine NI ?_
 simp only [n18,OC,TS (hn.app _) (hs.app _) a2,f,SB,seval,NE,NG,NF,NK,place,NB]
 refine Ndi (by simp;omega) (hs.app _) (hn.app _).sl t.net.fine aj t.d0 t.d1 (by have:=t.ns;omega) (fun x hx=>(t.src x hx).2) fun G A SL Lv l out Lb be ca cv cw bo pa pw vm vo v5 hB=>?_
 have kA:=fun Z=>(NZ.refl.app (X:=Z)).cells hB.hdr
 have ai:=hB.len
 simp only [Nb,Nk,Nl] at ai
 have S:=hB.new
 simp only [Nb,Nk,Nl] at S
 have b4:NC G H.length=Vc (netV pp P.length cp pl L.length cl):=by
  rw [hB.keep _ (by simp)];exact NQ
 have b8:NC G (H.length+1)=Vc [Vz,Vz]:=by
  rw [hB.keep _ (by simp)];exact OM
 have k4:=fun Z=>(NZ.refl.app (X:=Z)).cells b4
 refine NI ?_
 simp only [n18,QA,kA,k4,SB,seval,NG,place]
 obtain ⟨T,hT⟩:∃T,T=VL s (NN L to dl) to dl:=⟨_,rfl⟩
 rw [<-hT] at hQ
 have eT:firstT (RH Lv) SL 2=T:=by rw [hT];exact (SF hB.best).2
 have ag:Chg [] H G:=⟨by omega,fun j v _=>(hB.keep j (by simp;omega)).trans (NJ v)⟩
 have bm:=hB.ns
 refine Nzf (B4:=H.length) (B8:=H.length+1) (A:=A) (R:=G.length) ⟨rfl,rfl,rfl,rfl⟩ (kA _) (hB.sp.app _) ((NZ.refl.app).cells hB.sl) hB.ll (by omega) NQ (by omega) rfl rfl rfl fun fr1 G1 es aq J I i=>?_
 rw [eT] at J
 obtain ⟨f4,f8,f11,f12⟩:=aq
 have aw:=i.len
 simp only [Nb,Nk,Nl] at aw
 have D:Chg [] H G1:=(ag.app).trans' i fun j v hl=>by rw [Nj] at v;omega
 have c4:=i.cells (k4 _) (by rw [Nj];omega)
 have c8:=i.cells ((NZ.refl.app (X:=[Blk.map []])).cells b8) (by rw [Nj];omega)
 have bh:=ND hB.hdr
 have cA:=i.cells (kA _) (by rw [Nj];omega)
 have Y:=fun Z=>(NZ.refl.app (X:=Z)).cells c4
 have ac:=fun Z=>(NZ.refl.app (X:=Z)).cells cA
 have K:∀a,pw=some a->NN L to dl≠[]->a.block<G.length:=fun a f g=>by
  have:=hB.sw
  rw [f] at this
  refine this.lt fun e=>g (List.length_eq_zero_iff.1 ?_)
  rw [<-WI (n:=2*(PH SL 2++Sg SL to dl s).length),e];rfl
 have bb:Sl G1 Vr 11 pw (Tz (2*(PH SL 2++Sg SL to dl s).length) (NN L to dl)):=i.sl (hB.sw.app _) fun a f g=>by
  rw [Nj]
  have:=K a f fun e=>g (by rw [e];rfl)
  omega
 refine NI ?_
 simp only [n18,QA,f4,Y,SB,seval,NG,place]
 have ba:Sl G1 encI 1 pp P:=(D.sl hn.sp fun a _ _ h=>by cases h)
 refine Ns4 (B4:=H.length) (B8:=H.length+1) (A:=A) (R:=G.length) (Bc:=G1.length) (T:=T) (es:=es) (cp2:=cp) ⟨f4,f8,f11,f12⟩ (ba.app _) an (by rw [NJ (UK I)];exact I) J rfl NQ (by omega) rfl rfl rfl fun bf W pt ct au f17 o ad m=>?_
 clear f4 f8 f11 f12
 obtain ⟨f4,f8,f11,f12⟩:=au
 have ay:=m.len
 simp only [Nb,Nk,Nl] at ay o
 have U:∀b,b<G1.length->b∉[G1.length]:=fun b hb=>by rw [Nj];omega
 have aa:=fun Z=>(NZ.refl.app (X:=Z)).cells (m.cells (ac _) (U A (by omega)))
 refine NI ?_
 simp only [n18,f11,aa,SB,seval,NG]
 have ao:NC W G.length=.map (Sw kI vI es):=by
  rw [m.other _ (by simp;omega) (U _ (by omega)),NJ (by omega)];exact I
 have bc:Sl W Vr 11 pw (Tz (2*(PH SL 2++Sg SL to dl s).length) (NN L to dl)):=m.sl (bb.app _) fun a f g=>by
  have:=K a f fun e=>g (by rw [e];rfl)
  exact U _ (by omega)
 refine Nuq (B4:=H.length) (B8:=H.length+1) (A:=A) (R:=G.length) (Bc:=G1.length) (T:=T) (es:=es) (C:=NN L to dl) (cw:=cw) ⟨f4,f8,f11,f12⟩ (bc.app _) ah (by omega) (by rw [Na];exact ao) J f17 (by rw [Na];exact ad) (fun a f g=>by have:=K a f g;omega) (by omega) rfl rfl rfl fun bg V q c k av f17 hk p N u=>?_
 clear f4 f8 f11 f12
 obtain ⟨f4,f8,f11,f12⟩:=av
 have az:=u.len
 simp only [Nb,Nl,Od] at az p
 have F:Own (G1.length+1) V encI 1 pt ct (Sm T P):=(o.app []).chg u fun a f=>by
  have:=(o.block f).1
  rw [Nj];omega
 have a5:=fun Z=>(NZ.refl.app (X:=Z)).cells N
 refine NI ?_
 simp only [n18,f17,a5,SB,seval,NE,NG]
 have bl:(TF T (NN L to dl)).length<=(NN L to dl).length:=Nc7
 rw [hk]
 refine Nh7 (p.app _) (by omega) (by omega) fun G4 SD ak r a1 O a0=>?_
 simp only [Nb,Nl,Od] at a0 O
 have nq:∀b,b<W.length->b∉QC q:=fun b hb hm=>by
  obtain ⟨a,f,rfl⟩:=NU.1 hm
  have:=(p.block f).1;omega
 have w:∀b,b<V.length->b∉QC q->NC G4 b=NC V b:=fun b h1 h2=>by rw [O b h1 h2,Na]
 have ae:=(w G1.length (by omega) (nq _ (by omega))).trans N
 have z:=fun Z=>(NZ.refl.app (X:=Z)).cells ae
 have c83:NC G4 (H.length+1)=Vc [Vz,Vz]:=by
  have:=m.cells ((NZ.refl.app (X:=[Vc [Vz,Vz]])).cells c8) (U (H.length+1) (by omega))
  have:=u.cells ((NZ.refl.app (X:=[])).cells this) (U (H.length+1) (by omega))
  exact (w _ (by omega) (nq _ (by omega))).trans this
 obtain ⟨G5,e5,k5,m5⟩:=OO (ND c83) (Vc [.slice pt P.length ct,.slice q SD.length c])
 have a4:=fun Z=>(NZ.refl.app (X:=Z)).cells k5
 have M:=fun Z=>(NZ.refl.app (X:=Z)).cells c83
 refine NI ?_
 rw [hk,<-r.length_eq] at z
 simp only [n18,r18,f8,f17,z,M,e5,a4,show lim<=H.length+1 by omega,SB,seval,NG,NB,NH]
 have am:Own (G1.length+1) G5 encI 1 pt ct (Sm T P):=(RJ F fun a f=>w _ (F.block f).2 fun hm=>by
  obtain ⟨a',ap,e⟩:=NU.1 hm
  have h1:=(p.block ap).1
  have h2:=(o.block f).2
  omega).mut m5 fun a f e=>by have:=(o.block f).1;omega
 refine hQ _ pt ct q c SD ((am.le (by omega)).app _) (((ak.mut m5 fun a f e=>by have:=(p.block f).1;omega).le (by omega)).app _) r a1 ?_
 have B:Chg [] H V:=(((D.app).trans' m fun j v hl=>by rw [Nj] at v;omega).app).trans' u fun j v hl=>by rw [Nj] at v;omega
 refine (Chg.mut ?_ m5 (.inr (by omega))).app
 refine ⟨by have:=B.len;omega,fun j v _=>(w j (by omega) (nq _ (by omega))).trans (B.other j v (by simp))⟩
end Go.Proofs.YtohnaffmcjbpoaaGreat.Fn


namespace Go.Flow
open Go.AM Go.Net
def upC (l:Leg) (dl:Int) (k:Nat):List (Leg×Int):=(List.range k).flatMap (UN l dl)
theorem Nbu {l:Leg} {dl:Int} {k:Nat}:upC l dl (k+1)=upC l dl k++UN l dl k:=by
 unfold upC
 rw [Rl,Oy,N2,Qs,Na]
theorem Nw9 {l:Leg} {dl:Int} {k:Nat}:(UN l dl k).length<=1:=by unfold UN;split<;>simp
theorem Nm9 {l:Leg} {dl:Int}:∀{k:Nat},(upC l dl k).length<=k
 | 0=>by simp [upC]
 | k+1=>by
   have:=Nm9 (l:=l) (dl:=dl) (k:=k)
   have:=Nw9 (l:=l) (dl:=dl) (k:=k)
   rw [Nbu,Nb];omega
theorem Ner {l:Leg} {dl:Int} (hl:Fine l):∀{k:Nat},(k:Int)<=max 0 (dl-20160) / 1440->upC l dl k=[]
 | 0,_=>rfl
 | k+1,h=>by rw [Nbu,Ner hl (by omega),Nda hl (by omega)];rfl
theorem Njz {L:List Leg} {to dl:Int} {i:Nat} (h:i<L.length):NN (L.take (i+1)) to dl=NN (L.take i) to dl++Xf to dl (gt L i):=by
 unfold NN
 rw [QI h,Oy,N2,Qs,Na]
end Go.Flow
namespace Go.Proofs.YtohnaffmcjbpoaaGreat.Fn
open Go.AM Go.AM.Sym Go.Net Go.Flow
theorem Nzo {dl:Int} (h:0<=dl) (h1:dl<=OQ):IntKind.i64.wrap (Int.tdiv dl 1440)=dl / 1440:=by
 have mt:OQ=1051898399:=rfl
 rw [Pv h];exact NY (by omega) (by omega)
theorem Nro {dl:Int} (h:0<=dl) (h1:dl<=OQ):∃d0:Int,IntKind.i64.wrap (Int.tdiv (dl-20160) 1440)=d0/\-15<=d0/\d0<=dl / 1440/\((d0.toNat:Nat):Int)<=max 0 (dl-20160) / 1440:=by
 have mt:OQ=1051898399:=rfl
 by_cases h2:20160<=dl
 ·refine ⟨(dl-20160) / 1440, ?_,by omega,by omega,by omega⟩
  rw [Pv (by omega)];exact NY (by omega) (by omega)
 ·have e:Int.tdiv (dl-20160) 1440=-((20160-dl) / 1440):=by
   rw [show dl-20160=-(20160-dl) by omega,Int.neg_tdiv,Pv (by omega)]
  refine ⟨-((20160-dl) / 1440), ?_,by omega,by omega,by omega⟩
  rw [e];exact NY (by omega) (by omega)
structure WIn (H:NA) (pp pl ps pt:Option Addr) (P V:List Int) (L:List Leg) (s:List Flow.Src):Prop where
 sp:Sl H encI 1 pp P
 np:P.length<2 ^ 62
 sl:Sl H encL 8 pl L
 nl:L.length<=8
 ss:Sl H encS 3 ps s
 ns:s.length<=60
 sv:Sl H encI 1 pt V
 nv:V.length=P.length
 fine:∀l∈L,Fine l/\l.frm∈P/\l.dst∈P
 src:∀x∈s,SOk P x
theorem WIn.ext {H G:NA} {pp pl ps pt:Option Addr} {P V:List Int} {L:List Leg} {s:List Flow.Src} (h:WIn H pp pl ps pt P V L s) (a:NZ H G):WIn G pp pl ps pt P V L s:=⟨a.sl h.sp,h.np,a.sl h.sl,h.nl,a.sl h.ss,h.ns,a.sl h.sv,h.nv,h.fine,h.src⟩
section
variable {H:NA} {pp pl ps pt q:Option Addr} {P V:List Int} {L:List Leg} {s:List Flow.Src} {cp cl cs ct nq cq:Nat} {to dl:Int}
end
def MK (P:List Int) (L:List Leg) (n:Nat):Bool:=decide (260<P.length\/260<L.length\/60<n)||(decide (7<P.length\/8<L.length)&&decide (PY P L=0))
theorem Nwj [OB] {mp:Bool} {lim:Nat} {pp pl ps:Option Addr} {P:List Int} {L:List Leg} {n cp cl cs:Nat} {H:NA} {Q:Value->NA->Prop} (hn:NetIn H pp pl P L) :
  NR E mp lim 6 [.agg (netV pp P.length cp pl L.length cl).toArray,.slice ps n cs] H Q=Q (.bool (MK P L n)) H:=by
 refine pc (by decide) e6 rfl rfl ?_
 rw [b6,c6]
 have e:H.length<=H.length:=Ng _
 have f:=fun Z (mp:Bool) (lim:Nat) (Q:Value->NA->Prop)=>Nhs (mp:=mp) (lim:=lim) (cp:=cp) (cl:=cl) (Q:=Q) (hn.app Z)
 unfold MK
 by_cases g1:260<(P.length:Int)
 ·simp only [n6,r6,QA,Nq g1,SB,seval,NG,NF,NK,place,NB,NH]
  simp [show 260<P.length by omega]
 by_cases a:260<(L.length:Int)
 ·simp only [n6,r6,QA,Sj,Nm g1,Nq a,SB,seval,NG,NF,NK,place,NB,NH]
  simp [show 260<L.length by omega]
 by_cases b:60<(n:Int)
 ·simp only [n6,r6,QA,Sj,Nm g1,Nm a,Nq b,SB,seval,NG,NF,NK,place,NB,NH]
  simp [show 60<n by omega]
 have e1:decide (260<P.length\/260<L.length\/60<n)=false:=Nw (by omega)
 rw [e1,Bool.false_or]
 by_cases c:7<(P.length:Int)
 ·simp only [n6,r6,OC,QA,Sj,Nm g1,Nm a,Nm b,Nq c,f,SB,seval,NE,NG,NF,NK,place,NB,NH]
  simp [show 7<P.length by omega]
 by_cases d:8<(L.length:Int)
 ·simp only [n6,r6,OC,QA,Sj,Nm g1,Nm a,Nm b,Nm c,Nq d,f,SB,seval,NE,NG,NF,NK,place,NB,NH]
  simp [show 8<L.length by omega]
 ·simp only [n6,r6,QA,Sj,Nm g1,Nm a,Nm b,Nm c,Nm d,SB,seval,NG,NF,NK,place,NB,NH]
  simp;omega
theorem Nwk {P:List Int} {L:List Leg} {n:Nat} (h:MK P L n=false) (a:PY P L=0):P.length<=7/\L.length<=8/\n<=60:=by
 unfold MK at h
 rw [a] at h
 simp at h
 omega
theorem Nwh {T:Int->Option Int} {P:List Int} {i:Nat} (h:i<P.length):gt (Sm T P) i=(T (gt P i)).getD (-1):=by
 unfold Sm
 rw [OI (by simpa using h),OI h,Q1]
theorem N2h {a b:Flow.Ld}:aEq (.agg [.int .i64,.int .i64,.int .i64,.int .i64]) (.agg (QJ a).toArray) (.agg (QJ b).toArray)=some (decide (a=b)):=by
 simp only [aEq,QJ,PM,Uh,and_self,if_true]
 congr 1
 rw [Qw]
 cases a;cases b
 simp []
theorem Nnl [OB] {mp:Bool} {lim ca cb:Nat} {p q:Option Addr} {a b:List Flow.Ld} {H:NA} {Q:Value->NA->Prop} (m:Sl H QJ 4 p a) (n:Sl H QJ 4 q b) (hn:a.length<2 ^ 62) :
  NR E mp lim 23 [.slice p a.length ca,.slice q b.length cb] H Q=Q (.bool (decide (a=b))) H:=by
 refine pc (by decide) e23 rfl rfl ?_
 rw [b23,c23]
 by_cases hl:a.length=b.length
 case neg=>
  have h1:¬(a.length:Int)=(b.length:Int):=by omega
  simp only [n23,r23,Nm h1,SB,seval,NG,NF,reduceCtorEq,NK,NH]
  congr 1
  rw [eq_comm,decide_eq_false_iff_not]
  rintro rfl
  exact hl rfl
 have h1:(a.length:Int)=(b.length:Int):=by omega
 simp only [n23,Nq h1,SB,seval,NG,NF,reduceCtorEq,NK]
 refine NL (fun j=>a.length-j) (fun j fr G=>j<=a.length/\fr 0=.slice p a.length ca/\fr 1=.slice q b.length cb/\fr 5=Vi j/\NZ H G/\∀i,i<j->gt a i=gt b i) 0 ⟨Nx _,rfl,rfl,by rfl,NZ.refl.app,fun i hi=>by omega⟩ ?_
 intro j fr G ⟨u,g,f1,f5,f,e⟩ t
 rw [NP N1g.eq_1]
 refine NI ?_
 by_cases d:j<a.length
 case neg=>
  obtain rfl:j=a.length:=by omega
  simp only [n23,r23,g,f5,d,SB,seval,NG,NF,reduceCtorEq,NH]
  rw [No (Nic hl e)]
 have l1:=fun X=>((f.sl m).app X).loadCells NV d
 have o:=fun X=>((f.sl n).app X).loadCells NV (by omega:j<b.length)
 have r:=fun c (kk:IntKind) (H1:NA)=>(f.sl m).idx (c:=c) (k:=kk) (H1:=H1) d
 have s:=fun c (kk:IntKind) (H1:NA)=>(f.sl n).idx (c:=c) (k:=kk) (H1:=H1) (by omega:j<b.length)
 have l:IntKind.i64.wrap ((j:Int)+1)=((j+1:Nat):Int):=NS (by omega)
 have h:=N2h (a:=gt a j) (b:=gt b j)
 by_cases he:gt a j=gt b j
 ·rw [No he] at h
  simp only [n23,g,f1,f5,d,l1,o,r,s,l,h,SB,seval,NG,NF,reduceCtorEq]
  exact t (j+1) _ _ ⟨by omega,g,f1,rfl,f.app,Ne3 hl d e he⟩ (by omega)
 ·rw [Nw he] at h
  simp only [n23,r23,g,f1,f5,d,l1,o,r,s,h,SB,seval,NG,NF,reduceCtorEq,NH]
  rw [Nw]
  rintro rfl
  exact he rfl
theorem ZL {P:List Int} {L:List Leg} (h:PY P L=0) {a b:Leg} (f:a∈L) (g:b∈L) (e:a.id=b.id):a=b:=by
 have d:=(UV h).2.2.2
 obtain ⟨i,hi,rfl⟩:=List.mem_iff_getElem.1 f
 obtain ⟨j,c,rfl⟩:=List.mem_iff_getElem.1 g
 have key:∀i j,(hi:i<L.length)->(c:j<L.length)->i<j->L[i].id≠L[j].id:=fun i j hi c k e=>by
  have:=(d j c).2.1
  rw [OI c,<-e] at this
  exact this (List.mem_map.2 ⟨L[i],List.mem_take_iff_getElem.2 ⟨i,by omega,rfl⟩,rfl⟩)
 rcases Nat.lt_trichotomy i j with h1 | h1 | h1
 ·exact absurd e (key i j hi c h1)
 ·subst h1;rfl
 ·exact absurd e.symm (key j i c hi h1)
theorem Nrp {P:List Int} {L:List Leg} {to dl:Int} {T:Int->Option Int} (h:PY P L=0):∀x∈TF T (NN L to dl),∀y∈TF T (NN L to dl),x.dep=y.dep->x.leg=y.leg->x=y:=fun x f y g e1 e2=>by
 obtain ⟨c,hc,rfl⟩:=List.mem_map.1 f
 obtain ⟨d,hd,rfl⟩:=List.mem_map.1 g
 have a:=QR (Po.1 hc).1
 have b:=QR (Po.1 hd).1
 have e3:c.1=d.1:=ZL h a.1 b.1 e2
 have e:c.2=d.2:=e1
 unfold Tv
 rw [e3,e]
structure BP (fr:Nat->Value) (v1 v2 v3 v5 v11 v14 v16 v18:Value):Prop where
 f1:fr 1=v1
 f2:fr 2=v2
 f3:fr 3=v3
 f5:fr 5=v5
 f11:fr 11=v11
 f14:fr 14=v14
 f16:fr 16=v16
 f18:fr 18=v18
end Go.Proofs.YtohnaffmcjbpoaaGreat.Fn


namespace Go.Flow
open Go.AM Go.Net
def RF:List (Leg×Int)->List Pr->List Ld
 | c::C,p::l=>(if 0<p.flow then [⟨c.1.id,c.2,c.2+c.1.mins,p.flow⟩] else [])++RF C l
 | _,_=>[]
theorem Nch:∀{C:List (Leg×Int)} {l:List Pr} {j:Nat},j<C.length->j<l.length->RF (C.take (j+1)) l=RF (C.take j) l++(if 0<(gt l j).flow then [⟨(gt C j).1.id,(gt C j).2,(gt C j).2+(gt C j).1.mins,(gt l j).flow⟩] else [])
 | c::C,p::l,0,_,_=>by
   show RF [c] (p::l)=[]++_
   have:RF [] l=[]:=by cases l<;>rfl
   simp only [RF,Na,Oa]
   rfl
 | c::C,p::l,j+1,h1,h2=>by
   rw [Pt,Pt,RF,RF,Nch (by simpa using h1) (by simpa using h2),OV,OV,Nr]
theorem Yx:∀{C:List (Leg×Int)} {l:List Pr},(RF C l).length<=C.length
 | [],l=>by cases l<;>simp [RF]
 | c::C,[]=>by simp [RF]
 | c::C,p::l=>by
   have:=Yx (C:=C) (l:=l)
   unfold RF
   rw [Nb,Nk]
   split<;>simp<;>omega
theorem Nzb {α:Type} [Inhabited α] {l:List α} {n j:Nat}:gt (l.drop n) j=gt l (n+j):=by
 unfold gt
 rw [Nc,Nc,Q6]
end Go.Flow
namespace Go.Proofs.YtohnaffmcjbpoaaGreat.Fn
open Go.AM Go.AM.Sym Go.Net Go.Flow
theorem Nto [OB] {lim:Nat} {pp pl ps:Option Addr} {P:List Int} {L:List Leg} {s:List Flow.Src} {cp cl cs:Nat} {to dl:Int} {H:NA} {Q:Value->NA->Prop} (hn:NetIn H pp pl P L) (e:Sl H encS 3 ps s) (a:s.length<2 ^ 63) (b:lim<=H.length) (d:OD P L s to dl≠0)
  (c:∀G,Chg [] H G->Q (.tuple #[Vz,Vi (OD P L s to dl)]) G) :
  NR E false lim 21 [.agg (netV pp P.length cp pl L.length cl).toArray,.slice ps s.length cs,Vi to,Vi dl] H Q:=by
 refine SE (by decide) e21 rfl ?_
 rw [b21,c21]
 refine NI ?_
 simp only [n21,r21,OC,TS (hn.app _) (e.app _) a,Nm d,SB,seval,NE,NG,NF,NK,place,NB,NH]
 exact c _ Chg.refl.app
structure PlanOf (P:List Int) (L:List Leg) (s:List Flow.Src) (to dl:Int) (SL:List (Int×Int)) (l:List Pr):Prop where
 pl:PlOk SL to dl s (NN L to dl)
 al:Flow.Alike (RL SL to dl s (NN L to dl)) l
 fl:IsFlow (SL.length+2) l
 val:Flow.exc 1 l=We s (NN L to dl) to dl
theorem Nnp [OB] {lim:Nat} {pp pl ps:Option Addr} {P:List Int} {L:List Leg} {s:List Flow.Src} {cp cl cs:Nat} {to dl:Int} {H:NA} {Q:Value->NA->Prop} (hn:NetIn H pp pl P L) (hs:Sl H encS 3 ps s) (Y:L.length<=8) (ai:lim<=H.length) (ha:OD P L s to dl=0)
  (hQ:∀G q c SD SL l,Own H.length G QJ 4 q c SD->SD.Perm (RF (NN L to dl) (l.drop (PH SL 2++Sg SL to dl s).length))->SD.Pairwise (fun x y=>¬RD y x)->PlanOf P L s to dl SL l->Chg [] H G->Q (.tuple #[.slice q SD.length c,Vi 0]) G) :
  NR E false lim 21 [.agg (netV pp P.length cp pl L.length cl).toArray,.slice ps s.length cs,Vi to,Vi dl] H Q:=by
 have o:=Sy ha
 have ag:s.length<2 ^ 63:=by have:=o.ns;omega
 have V:=S9 (to:=to) (dl:=dl) o.net.fine
 refine SE (by decide) e21 rfl ?_
 rw [b21,c21]
 refine NI ?_
 simp only [n21,OC,TS (hn.app _) (hs.app _) ag,ha,SB,seval,NE,NG,NF,NK,place,NB]
 refine Ndi (by simp;omega) (hs.app _) (hn.app _).sl o.net.fine Y o.d0 o.d1 (by have:=o.ns;omega) (fun x hx=>(o.src x hx).2) fun G A SL Lv l out Lb aj ca cv cw aq pa pw vm vo v5 hB=>?_
 have kA:=fun Z=>(NZ.refl.app (X:=Z)).cells hB.hdr
 have W:=hB.len
 simp only [Nb,Nk,Nl] at W
 have U:Chg [] H G:=⟨by omega,fun j hj _=>(hB.keep j (by simp;omega)).trans (NJ hj)⟩
 obtain ⟨C,u⟩:∃C,C=NN L to dl:=⟨_,rfl⟩
 obtain ⟨n,m⟩:∃n,n=(PH SL 2++Sg SL to dl s).length:=⟨_,rfl⟩
 obtain ⟨X,hX⟩:∃X,X=l.drop n:=⟨_,rfl⟩
 have an:l.length=n+C.length:=by
  rw [hB.al.len,m,u]
  unfold RL
  rw [Nb (bs:=Tu SL to (NN L to dl)),WJ]
 have ak:X.length=C.length:=by rw [hX,Ps];omega
 have J:=hB.sw
 rw [<-u,<-m] at J
 rw [<-u] at V
 have ap:=hB.ns
 have ao:n<2 ^ 40:=by
  have h1:=Z8 (PL:=SL) (to:=to) (dl:=dl) (s:=s)
  have h2:∀(PL:List (Int×Int)) (i:Nat),(PH PL i).length<=PL.length:=fun PL=>by
   induction PL with
   | nil=>intro i;simp [PH]
   | cons a PL ih=>
     intro i
     cases PL with
     | nil=>simp [PH]
     | cons b PL=>
       have:=ih (i+1)
       unfold PH
       rw [Nb,Nk]
       split<;>simp at this⊢<;> omega
  have:=h2 SL 2
  have:=o.ns
  rw [m,Nb];omega
 refine NI ?_
 rw [<-u] at kA
 simp only [n21,kA,SB,seval,NG]
 refine NL (fun z:Nat×Option Addr×Nat=>C.length-z.1) (fun z fr G'=>z.1<=C.length/\fr 11=Vp A/\fr 32=.slice pw C.length cw/\fr 33=Vi C.length/\fr 34=Vi z.1/\fr 12=.slice z.2.1 (RF (C.take z.1) X).length z.2.2/\Own G.length G' QJ 4 z.2.1 z.2.2 (RF (C.take z.1) X)/\Chg [] G G') (0,none,0)
  ⟨Nx _,rfl,rfl,rfl,by rfl,by rw [show RF (C.take 0) X=[] by cases X<;>rfl];rfl,by rw [show RF (C.take 0) X=[] by cases X<;>rfl];exact .nil,Chg.refl.app⟩ ?_
 rintro ⟨j,q,c⟩ fr G' ⟨hj,f11,f32,g,k,f12,v,d⟩ hN
 simp only at hj k f12 v
 rw [NP N1h.eq_1]
 refine NI ?_
 have w:=d.len
 have F:=Yx (C:=C.take j) (l:=X)
 rw [N6] at F
 by_cases f:j<C.length
 case neg=>
  obtain rfl:j=C.length:=by omega
  rw [Of] at v f12
  simp only [n21,g,k,f12,f,SB,seval,NE,NG,NF]
  rw [Of] at F
  refine Nh7 (v.app _) (by omega) (by omega) fun G4 SD aa h ae B ad=>?_
  simp only [Nb,Nl,Od] at ad B
  refine NI ?_
  simp only [n21,r21,f12,SB,seval,NG,NH]
  have I:=h.length_eq
  rw [<-I]
  refine hQ _ q c SD SL l ((aa.le (by omega)).app _) (by rw [<-u,<-m,<-hX];exact h) ae ⟨hB.pl,hB.al,hB.fl,(SF hB.best).1⟩ ?_
  refine Chg.app ⟨by omega,fun b hb _=>?_⟩
  rw [B b (by omega) fun hm=>by obtain ⟨a,t,e⟩:=NU.1 hm;have:=(v.block t).1;omega,Na,d.other b (by omega) (by simp),U.other b hb (by simp)]
 have ah:(Tz (2*n) C).length=C.length:=WI
 have O:=d.sl J fun _ _ _=>by simp
 have R:=fun Z=>(O.app Z).loadCells SK (i:=j) (by omega)
 have eW:=Nbq (n:=2*n) f
 simp only [eW] at R
 have xW:=QM O f ah
 have N:=d.sl hB.sa fun _ _ _=>by simp
 have K:=hB.hdr
 rw [<-u] at K
 have M:=fun Z=>(NZ.refl.app (X:=Z)).cells (d.cells K (by simp))
 obtain ⟨a,t⟩:∃a,a=2*n+2*j:=⟨_,rfl⟩
 have T:tw a=2*(n+j)+1:=by unfold tw;rw [Nh (by omega)];omega
 have p:IntKind.i64.wrap (((BitVec.ofInt IntKind.i64.bits (a:Int) ^^^ BitVec.ofInt IntKind.i64.bits 1).toNat:Nat):Int)=((tw a:Nat):Int):=N0d (n:=a) (by omega)
 rw [<-t] at R
 have xA:=QM (i:=tw a) (n:=2*l.length) N (by omega) RQ
 have lA:∀Z,AM.loadCell (G'++Z) ((Tk pa 2 (tw a)).add 1)=some (Vi (gt X j).flow):=fun Z=>by
  have:=(N.app Z).loadCell PN (i:=tw a) (by rw [RQ];omega) (j:=1) (by decide)
  rw [this,VP (by omega),T,YZ,hX,Nzb]
  rfl
 have w1:IntKind.i64.wrap ((j:Int)+1)=((j+1:Nat):Int):=NS (by omega)
 have r:=Nch (C:=C) (l:=X) f (by omega)
 obtain ⟨fl,ac⟩:∃fl,fl=(gt X j).flow:=⟨_,rfl⟩
 rw [<-ac] at lA r
 have D:lim<=G'.length:=by omega
 obtain ⟨G2,e2,O2,C2,K2,am,_⟩:=v.step (lim':=lim) (bytes:=32) (by omega) NV (by decide) (⟨(gt C j).1.id,(gt C j).2,(gt C j).2+(gt C j).1.mins,fl⟩:Flow.Ld) (by unfold OT;omega) (by omega) w [Vc (Vr (gt C j,a)),Vc (QJ ⟨(gt C j).1.id,(gt C j).2,(gt C j).2+(gt C j).1.mins,fl⟩)] (G'.length+1) 1 (by rw [OM];rfl)
 simp only [Nk,Nl,Ny,Na,Nat.reduceAdd] at e2 O2 K2
 have S:OJ lim none 4 32 false (.slice q (RF (C.take j) X).length c) (.slice (Sa (G'.length+1)) 1 1) (G'++[Vc (Vr (gt C j,a)),Vc [Vi (gt C j).1.id,Vi (gt C j).2,Vi ((gt C j).2+(gt C j).1.mins),Vi fl]])=some (.slice (Sa (G'.length+2)) ((RF (C.take j) X).length+1) (loose 4),G2++[]):=by rw [Na];exact e2
 by_cases g1:0<fl
 ·rw [Nh g1] at r
  simp only [n21,f11,f32,g,k,f12,f,R,xW,M,p,xA,lA,w1,SK,Nml,N2q,N2p,Noo,NM,D,Nq g1,S,SB,seval,NG,NF,place,NB]
  refine hN (j+1,Sa (G'.length+2),loose 4) _ _ ⟨by show j+1<=_;omega,f11,f32,g,rfl,by rw [r,Nb,Ow];exact rfl,by rw [r];exact O2.app _,C2 [] G (Ng _) d⟩ (by show C.length-(j+1)<C.length-j;omega)
 ·rw [Nf g1,Na] at r
  simp only [n21,f11,f32,g,k,f,R,xW,M,p,xA,lA,w1,SK,Noo,NM,D,Nm g1,SB,seval,NG,NF,place,NB]
  refine hN (j+1,q,c) _ _ ⟨by show j+1<=_;omega,f11,f32,g,rfl,by rw [r];exact f12,by rw [r];exact v.app _,d.app⟩ (by show C.length-(j+1)<C.length-j;omega)
end Go.Proofs.YtohnaffmcjbpoaaGreat.Fn


namespace Go.Flow
open Go.AM Go.Net
abbrev Cg:=Int×Int×Int
def WU (a b:Cg):Prop:=a.1<b.1\/a.1=b.1/\(a.2.1<b.2.1\/a.2.1=b.2.1/\b.2.2<a.2.2)
instance (a b:Cg):Decidable (WU a b):=by unfold WU;infer_instance
def QO (p t:Int):List Cg->Int
 | []=>0
 | x::l=>(if x.1=p/\x.2.1<=t then x.2.2 else 0)+QO p t l
def UY (p:Int):List Cg->Int
 | []=>0
 | x::l=>(if x.1=p then x.2.2 else 0)+UY p l
theorem Uk {p t:Int}:∀{a b:List Cg},QO p t (a++b)=QO p t a+QO p t b
 | [],b=>by simp [QO]
 | x::a,b=>by rw [Oe,QO,QO,Uk];omega
theorem Nh1 {p:Int}:∀{a b:List Cg},UY p (a++b)=UY p a+UY p b
 | [],b=>by simp [UY]
 | x::a,b=>by rw [Oe,UY,UY,Nh1];omega
theorem MR {p t:Int} {a b:List Cg} (h:a.Perm b):QO p t a=QO p t b:=by
 induction h with
 | nil=>rfl
 | cons x h ih=>simp only [QO,ih]
 | swap x y l=>simp only [QO];omega
 | trans h1 h2 c d=>exact c.trans d
theorem Nex {p:Int}:∀{l:List Cg},(∀x∈l,x.1≠p)->UY p l=0
 | [],_=>rfl
 | x::l,h=>by
   rw [UY,Nf (h x Nn),Nex fun y a=>h y (Ni _ a)];rfl
theorem Ndn {p t:Int}:∀{l:List Cg},(∀x∈l,x.1=p->x.2.1<=t)->QO p t l=UY p l
 | [],_=>rfl
 | x::l,h=>by
   rw [QO,UY,Ndn fun y a=>h y (Ni _ a)]
   have:=h x Nn
   by_cases h1:x.1=p
   ·rw [Nh ⟨h1,this h1⟩,Nh h1]
   ·rw [Nf fun q=>h1 q.1,Nf h1]
theorem Nfv {p t:Int}:∀{l:List Cg},(∀x∈l,x.1=p->t<x.2.1)->QO p t l=0
 | [],_=>rfl
 | x::l,h=>by
   rw [QO,Nfv fun y a=>h y (Ni _ a)]
   have:=h x Nn
   rw [Nf fun q=>by have:=this q.1;omega];rfl
theorem Nj6 {p t:Int}:∀{l:List Cg},(∀x∈l,x.1=p->x.2.1<=t->x.2.2<=0)->QO p t l<=0
 | [],_=>Oc _
 | x::l,h=>by
   rw [QO]
   have ih:=Nj6 (p:=p) (t:=t) (l:=l) fun y a=>h y (Ni _ a)
   have:=h x Nn
   split
   ·rename_i hc;have:=this hc.1 hc.2;omega
   ·omega
theorem Nfw {p t u:Int}:∀{l:List Cg},(∀x∈l,x.1=p->x.2.1<=u\/0<=x.2.2)->QO p u l<=UY p l
 | [],_=>Oc _
 | x::l,h=>by
   rw [QO,UY]
   have ih:=Nfw (t:=t) (p:=p) (u:=u) (l:=l) fun y a=>h y (Ni _ a)
   have:=h x Nn
   by_cases h1:x.1=p
   ·rw [Nh h1]
    split
    ·omega
    ·rename_i hc;have:=this h1;omega
   ·rw [Nf fun q=>h1 q.1,Nf h1];omega
theorem Ntc {S:List Cg} (q:S.Pairwise fun x y=>¬WU y x):(∀i,i<S.length->0<=UY (gt S i).1 (S.take (i+1)))↔∀p t,0<=QO p t S:=by
 have hp:=N5.1 q
 have d:∀i j,i<j->j<S.length->¬WU (gt S j) (gt S i):=fun i j m c=>by
  have:=hp i j (by omega) c m
  rw [OI c,OI (show i<S.length by omega)];exact this
 have mt:∀{k:Nat} {x:Cg},x∈S.take k->∃j,j<k/\j<S.length/\x=gt S j:=fun {k x} b=>by
  obtain ⟨j,c,rfl⟩:=List.mem_iff_getElem.1 b
  rw [N6] at c
  exact ⟨j,by omega,by omega,by rw [List.getElem_take,OI]⟩
 have md:∀{k:Nat} {x:Cg},x∈S.drop k->∃j,k<=j/\j<S.length/\x=gt S j:=fun {k x} b=>by
  obtain ⟨j,c,rfl⟩:=List.mem_iff_getElem.1 b
  rw [Ps] at c
  exact ⟨k+j,by omega,by omega,by rw [Rj,OI]⟩
 constructor
 ·intro h p t
  have key:∀k,k<=S.length->0<=QO p t (S.take k):=fun k=>by
   induction k with
   | zero=>intro _;exact Oc _
   | succ k ih=>
     intro s
     have ih:=ih (by omega)
     by_cases hc:(gt S k).1=p/\(gt S k).2.1<=t
     ·rw [Ndn fun x b f=>?_]
      ·have:=h k (by omega)
       rw [hc.1] at this;exact this
      ·obtain ⟨j,c,a,rfl⟩:=mt b
       by_cases n:j=k
       ·rw [n];exact hc.2
       ·have:=d j k (by omega) (by omega)
        unfold WU at this
        omega
     ·rw [QI (by omega),Uk]
      show 0<=QO p t (S.take k)+((if _ then _ else _)+0)
      rw [Nf hc];omega
  have:=key S.length (Ng _)
  rw [Of] at this;exact this
 ·intro h i hi
  have e:∀p t,QO p t S=QO p t (S.take (i+1))+QO p t (S.drop (i+1)):=fun p t=>by rw [<-Uk,Pu]
  by_cases o:0<=(gt S i).2.2
  ·have h1:=h (gt S i).1 ((gt S i).2.1-1)
   rw [e,Nfv (l:=S.drop (i+1)) fun x b f=>?_] at h1
   ·have:=Nfw (t:=0) (p:=(gt S i).1) (u:=(gt S i).2.1-1) (l:=S.take (i+1)) fun x b f=>?_
    ·omega
    ·obtain ⟨j,c,a,rfl⟩:=mt b
     by_cases g:j=i
     ·rw [g];exact .inr o
     ·have:=d j i (by omega) hi
      unfold WU at this
      omega
   ·obtain ⟨j,c,a,rfl⟩:=md b
    have:=d i j (by omega) a
    unfold WU at this
    omega
  ·have h1:=h (gt S i).1 (gt S i).2.1
   rw [e,Ndn (l:=S.take (i+1)) fun x b f=>?_] at h1
   ·have:=Nj6 (p:=(gt S i).1) (t:=(gt S i).2.1) (l:=S.drop (i+1)) fun x b f r=>?_
    ·omega
    ·obtain ⟨j,c,a,rfl⟩:=md b
     have:=d i j (by omega) a
     unfold WU at this
     omega
   ·obtain ⟨j,c,a,rfl⟩:=mt b
    by_cases g:j=i
    ·rw [g];exact Oc _
    ·have:=d j i (by omega) hi
     unfold WU at this
     omega
theorem Npg {S:List Cg} (g:S.Pairwise fun x y=>¬WU y x) {i:Nat} (hi:i<S.length):UY (gt S i).1 (S.take (i+1))=(if 0<i/\(gt S (i-1)).1≠(gt S i).1 then 0 else UY (gt S (i-1)).1 (S.take i))+(gt S i).2.2:=by
 rw [QI hi,Nh1]
 have e:UY (gt S i).1 [gt S i]=(gt S i).2.2:=by simp [UY]
 rw [e]
 congr 1
 have hp:=N5.1 g
 by_cases hc:0<i/\(gt S (i-1)).1≠(gt S i).1
 ·rw [Nh hc]
  refine Nex fun x k=>?_
  obtain ⟨j,f,rfl⟩:=List.mem_iff_getElem.1 k
  rw [N6] at f
  rw [List.getElem_take]
  intro e
  have h1:¬WU S[i] S[i-1]:=hp (i-1) i (by omega) hi (by omega)
  obtain ⟨d,a⟩:=hc
  rw [OI (by omega),OI hi] at a
  rw [OI hi] at e
  by_cases b:j=i-1
  ·subst b;exact a e
  ·have h2:¬WU S[i-1] S[j]:=hp j (i-1) (by omega) (by omega) (by omega)
   unfold WU at h1 h2
   omega
 ·rw [Nf hc]
  by_cases c:i=0
  ·subst c;rfl
  ·have:(gt S (i-1)).1=(gt S i).1:=Ns fun h=>hc ⟨by omega,h⟩
   rw [this]
end Go.Flow


namespace Go.Proofs.YtohnaffmcjbpoaaGreat.Fn
open Go.AM Go.AM.Sym Go.Net Go.Flow Go.Sort
instance sortC [OB]:Srt.SortAt E zC:=⟨rfl,kn rfl rfl (by decide),kn rfl rfl (by decide),kn rfl rfl (by decide),kn rfl rfl (by decide),kn rfl rfl (by decide),kn rfl rfl (by decide),kn rfl rfl (by decide),kn rfl rfl (by decide),kn rfl rfl (by decide),kn rfl rfl (by decide),kn rfl rfl (by decide),kn rfl rfl (by decide),kn rfl rfl (by decide),kn rfl rfl (by decide),kn rfl rfl (by decide),kn rfl rfl (by decide),kn rfl rfl (by decide),kn rfl rfl (by decide)⟩
instance encC3:Srt.EncOk enc3 zC:=⟨fun _=>rfl⟩
def Nxc (a b:Cg):Int:=orL [UE a.1 b.1,UE a.2.1 b.2.1,UE b.2.2 a.2.2]
theorem Nzs [OB] (mp:Bool) (lim:Nat) (a b:Cg) (H:NA) (Q:Value->NA->Prop):NR E mp lim 77 [.agg (enc3 a).toArray,.agg (enc3 b).toArray] H Q=Q (Vi (Nxc a b)) H:=by
 refine pc (by decide) e77 rfl rfl ?_
 rw [b77,c77]
 simp only [n77,r77,enc3,Nmp,Nld,Ww,WC,Wi,Zd,XT,Za,Nat.reducePow,SB,seval,NE,NG,NK,place,NB,NH]
 rfl
theorem Nbl {a b:Cg}:Srt.ltC Nxc a b=decide (WU a b):=by
 unfold Srt.ltC
 have e0:Nxc a b=if UE a.1 b.1≠0 then UE a.1 b.1 else if UE a.2.1 b.2.1≠0 then UE a.2.1 b.2.1 else if UE b.2.2 a.2.2≠0 then UE b.2.2 a.2.2 else 0:=rfl
 have e:Nxc a b<0↔WU a b:=by
  rw [e0]
  unfold WU
  rcases Qi a.1 b.1 with h | h | h
  ·rw [Zp h];simp [h]
  ·rw [Zq h]
   rcases Qi a.2.1 b.2.1 with h2 | h2 | h2
   ·rw [Zp h2];simp [h,h2]
   ·rw [Zq h2]
    rcases Qi b.2.2 a.2.2 with h3 | h3 | h3
    ·rw [Zp h3];simp [h,h2,h3]
    ·rw [Zq h3];simp [h,h2,h3]
    ·rw [Zo h3];simp [h,h2];omega
   ·rw [Zo h2];simp [h];omega
  ·rw [Zo h];simp;omega
 rw [Qw,N3,N3]
 exact e
theorem Nxb:SWO (Srt.ltC Nxc):=by
 refine ⟨fun x=>?_,fun x y z h1 h2=>?_,fun x y z h1 h2=>?_⟩
 ·rw [Nbl];simp [WU]
 ·rw [Nbl,N3] at h1 h2⊢
  unfold WU at *;omega
 ·rw [Nbl,decide_eq_false_iff_not] at h1 h2⊢
  unfold WU at *;omega
theorem Nh2 {p b:Int}:∀{l:List Cg},(∀x∈l,-b<=x.2.2/\x.2.2<=b)->0<=b->-(b*l.length)<=UY p l/\UY p l<=b*l.length
 | [],_,hb=>by simp [UY]
 | x::l,h,hb=>by
   have ih:=Nh2 (p:=p) (l:=l) (fun y a=>h y (Ni _ a)) hb
   have:=h x Nn
   rw [UY,Nk]
   have e:b*((l.length+1:Nat):Int)=b*l.length+b:=by rw [Int.natCast_add,Int.mul_add];simp
   rw [e]
   split<;>omega
theorem Nrm [OB] {lim lo c:Nat} {p:Option Addr} {ch:List Cg} {G:NA} {Q:Value->NA->Prop} (hO:Own lo G enc3 3 p c ch) (U:lim<=lo) (ac:lim<=G.length) (hn:ch.length<1000) (hb:∀x∈ch,-100000000000<=x.2.2/\x.2.2<=100000000000)
  (M:∀b G',(b=true↔∀p t,0<=QO p t ch)->(∀x,x<G.length->x∉QC p->NC G' x=NC G x)->Q (.bool b) G') :
  NR E false lim 46 [.slice p ch.length c] G Q:=by
 refine SE (by decide) e46 rfl ?_
 rw [b46,c46]
 simp only [n46,SB,seval,NE,NG,reduceCtorEq,NK]
 refine Nh8 (iz:=zC) Nzs Nxb (hO.app _) U (by omega) fun G1 S O f V R T=>?_
 have r:S.Pairwise fun x y=>¬WU y x:=V.imp fun h=>by rw [Nbl,decide_eq_false_iff_not] at h;exact h
 have I:=f.length_eq
 have P:∀x∈S,-100000000000<=x.2.2/\x.2.2<=100000000000:=fun x W=>hb x (f.mem_iff.1 W)
 simp only [Nb,Nl,Od] at T
 have D:(∀p t,0<=QO p t S)↔∀p t,0<=QO p t ch:=⟨fun h p t=>by rw [<-MR f];exact h p t,fun h p t=>by rw [MR f];exact h p t⟩
 have J:=(Ntc r).trans D
 have q:∀u,NZ G1 u->∀x,x<G.length->x∉QC p->NC u x=NC G x:=fun u m x h1 h2=>by
  obtain ⟨Y,rfl⟩:=m
  rw [NJ (by omega),R x (by simp;omega) h2,Na]
 refine NI ?_
 rw [<-I]
 simp only [n46,SB,seval,NG,reduceCtorEq,NK]
 refine NL (fun j=>S.length-j) (fun j fr G'=>j<=S.length/\fr 0=.slice p S.length c/\fr 8=.slice p S.length c/\fr 9=Vi S.length/\fr 10=Vi j/\fr 3=Vi (UY (gt S (j-1)).1 (S.take j))/\(∀i,i<j->0<=UY (gt S i).1 (S.take (i+1)))/\NZ G1 G') 0 ⟨Nx _,rfl,rfl,rfl,by rfl,by rfl,fun i hi=>by omega,NZ.refl.app⟩ ?_
 intro j fr G' ⟨hj,v,f8,f9,f10,f3,n,m⟩ N
 rw [NP N04.eq_1]
 refine NI ?_
 by_cases d:j<S.length
 case neg=>
  obtain rfl:j=S.length:=by omega
  simp only [n46,r46,f9,f10,d,SB,seval,NG,NF,NH]
  exact M true _ ⟨fun _=>J.1 n,fun _=>rfl⟩ (q _ m.app)
 have B:Sl G' enc3 3 p S:=m.sl (O.sl Vh)
 have A:=fun Z=>(B.app Z).loadCells Vh d
 have C:=QM B d rfl
 have o:=Npg r d
 have aa:G1.length<=G'.length:=by obtain ⟨Y,rfl⟩:=m;simp
 have e:lim<=G'.length:=by omega
 have X:IntKind.i64.wrap ((j:Int)+1)=((j+1:Nat):Int):=NS (by omega)
 have F:=Nh2 (p:=(gt S j).1) (b:=100000000000) (l:=S.take (j+1)) (fun x W=>P x (P0 W)) (by omega)
 rw [N6] at F
 obtain ⟨s,k⟩:∃s,s=UY (gt S j).1 (S.take (j+1)):=⟨_,rfl⟩
 rw [<-k] at o F
 have w:s<0->¬∀p t,0<=QO p t ch:=fun h hh=>by
  have:=J.2 hh j d
  rw [<-k] at this;omega
 by_cases hc:0<j/\(gt S (j-1)).1≠(gt S j).1
 ·rw [Nh hc,Qu] at o
  have K:IntKind.i64.wrap ((j:Int)-1)=((j-1:Nat):Int):=by rw [NY (by omega) (by omega)];omega
  have l1:∀Z,AM.loadCell (G'++Z) ((Tk p 3 (j-1)).add 0)=some (Vi (gt S (j-1)).1):=fun Z=>(B.app Z).loadCell Vh (i:=j-1) (by omega) (j:=0) (by decide)
  have L:=QM (i:=j-1) B (by omega) rfl
  have z:IntKind.i64.wrap (0+(gt S j).2.2)=s:=by rw [Qu,o];exact NY (by omega) (by omega)
  have g:0<(j:Int):=by omega
  by_cases a:s<0
  ·simp only [n46,r46,v,f8,f9,f10,d,A,C,enc3,e,K,l1,L,Nq g,Nm hc.2,z,Nq a,SB,seval,NG,NF,reduceCtorEq,place,NB,NH]
   exact M false _ ⟨fun h=>(by cases h),fun h=>absurd h (w a)⟩ (q _ m.app)
  ·simp only [n46,v,f8,f9,f10,d,A,C,X,enc3,e,K,l1,L,Nq g,Nm hc.2,z,Nm a,SB,seval,NG,NF,reduceCtorEq,place,NB]
   exact N (j+1) _ _ ⟨by omega,v,f8,f9,rfl,by rw [show j+1-1=j by omega,<-k];exact rfl,fun i hi=>by
    rcases (by omega:i<j\/i=j) with h | rfl
    ·exact n i h
    ·rw [<-k];omega,m.app⟩ (by omega)
 ·rw [Nf hc] at o
  have z:IntKind.i64.wrap (UY (gt S (j-1)).1 (S.take j)+(gt S j).2.2)=s:=by rw [<-o];exact NY (by omega) (by omega)
  by_cases h0:j=0
  ·have g:¬0<(j:Int):=by omega
   by_cases a:s<0
   ·simp only [n46,r46,f8,f9,f10,f3,d,A,C,enc3,e,Nm g,z,Nq a,SB,seval,NG,NF,place,NB,NH]
    exact M false _ ⟨fun h=>(by cases h),fun h=>absurd h (w a)⟩ (q _ m.app)
   ·simp only [n46,f8,f9,f10,f3,d,A,C,X,enc3,e,Nm g,z,Nm a,SB,seval,NG,NF,place,NB]
    exact N (j+1) _ _ ⟨by omega,v,f8,f9,rfl,by rw [show j+1-1=j by omega,<-k];exact rfl,fun i hi=>by
     obtain rfl:i=j:=by omega
     rw [<-k];omega,m.app⟩ (by omega)
  ·have g:0<(j:Int):=by omega
   have H:(gt S (j-1)).1=(gt S j).1:=Ns fun h=>hc ⟨by omega,h⟩
   have K:IntKind.i64.wrap ((j:Int)-1)=((j-1:Nat):Int):=by rw [NY (by omega) (by omega)];omega
   have l1:∀Z,AM.loadCell (G'++Z) ((Tk p 3 (j-1)).add 0)=some (Vi (gt S (j-1)).1):=fun Z=>(B.app Z).loadCell Vh (i:=j-1) (by omega) (j:=0) (by decide)
   have L:=QM (i:=j-1) B (by omega) rfl
   by_cases a:s<0
   ·simp only [n46,r46,v,f8,f9,f10,f3,d,A,C,enc3,e,K,l1,L,Nq g,Nq H,z,Nq a,SB,seval,NG,NF,reduceCtorEq,place,NB,NH]
    exact M false _ ⟨fun h=>(by cases h),fun h=>absurd h (w a)⟩ (q _ m.app)
   ·simp only [n46,v,f8,f9,f10,f3,d,A,C,X,enc3,e,K,l1,L,Nq g,Nq H,z,Nm a,SB,seval,NG,NF,reduceCtorEq,place,NB]
    exact N (j+1) _ _ ⟨by omega,v,f8,f9,rfl,by rw [show j+1-1=j by omega,<-k];exact rfl,fun i hi=>by
     rcases (by omega:i<j\/i=j) with h | rfl
     ·exact n i h
     ·rw [<-k];omega,m.app⟩ (by omega)
end Go.Proofs.YtohnaffmcjbpoaaGreat.Fn


namespace Go.Flow
open Go.AM Go.Net
def SG (c:Leg×Int):Int×Int×Int:=(c.1.id,c.2,c.2+c.1.mins)
def Vm (C:List (Leg×Int)) (k:Int×Int×Int):Option Leg:=(C.find? fun c=>decide (SG c=k)).map (·.1)
theorem TU {C:List (Leg×Int)} {k:Int×Int×Int} {l:Leg} (h:Vm C k=some l):∃c∈C,SG c=k/\c.1=l:=by
 unfold Vm at h
 simp only [Nd] at h
 obtain ⟨c,h1,h2⟩:=h
 exact ⟨c,Ri h1,by simpa using R8 h1,h2⟩
theorem Nqz {C:List (Leg×Int)} {k:Int×Int×Int} (h:Vm C k=none):∀c∈C,SG c≠k:=fun c hc e=>by
 unfold Vm at h
 rw [Option.map_eq_none_iff,List.find?_eq_none] at h
 exact h c hc (by simpa using e)
theorem Nqy {C:List (Leg×Int)} {x:Leg×Int} {k:Int×Int×Int} (b:∀c∈C,SG c=SG x->c.1=x.1):Vm (C++[x]) k=if k=SG x then some x.1 else Vm C k:=by
 have e:Vm (C++[x]) k=match Vm C k with | some l=>some l | none=>if SG x=k then some x.1 else none:=by
  unfold Vm
  rw [List.find?_append]
  cases hc:C.find? fun c=>decide (SG c=k) with
  | some c=>rfl
  | none=>
    simp only [Option.none_or,List.find?_cons,List.find?_nil,Ou]
    by_cases h:SG x=k
    ·simp [h]
    ·simp [h]
 rw [e]
 by_cases h:k=SG x
 ·subst h
  rw [Nh rfl]
  cases hl:Vm C (SG x) with
  | none=>simp
  | some l=>
    obtain ⟨c,h1,h2,a⟩:=TU hl
    simp only
    rw [<-a,b c h1 h2];simp
 ·rw [Nf h]
  cases hl:Vm C k with
  | none=>simp only;rw [Nf fun q=>h q.symm]
  | some l=>rfl
end Go.Flow
namespace Go.Proofs.YtohnaffmcjbpoaaGreat.Fn
open Go.AM Go.AM.Sym Go.Net Go.Flow
def kD (k:Int×Int×Int):Value:=.agg #[Vi k.1,Vi k.2.1,Vi k.2.2,Vi 0]
def vL (l:Leg):Value:=.agg (encL l).toArray
theorem N1k:No5 kD:=fun a b=>by
 obtain ⟨c,d,a3⟩:=a
 obtain ⟨b1,b2,b3⟩:=b
 simp only [kD,VI,UL,if_true,N0,Bool.and_true,Prod.mk.injEq,Bool.decide_and]
 simp only [beq_self_eq_true,Bool.and_true]
 rfl
theorem N1j {k:Int×Int×Int}:TZ (.ints [.i64,.i64,.i64,.i64]) (kD k)=true:=by simp [kD,TZ,Te]
theorem Y0 {P:List Int} {L:List Leg} {to dl:Int} (h:PY P L=0):∀c∈NN L to dl,∀d∈NN L to dl,SG c=SG d->c.1=d.1:=fun c hc d hd e=>by
 unfold SG at e
 exact ZL h (QR hc).1 (QR hd).1 (Prod.mk.inj e).1
theorem Nyz [OB] {lim M B12 Bd2 Bn2 Bt2 np cpn cl:Nat} {Kk:List Nat} {G:NA} {fr:Nat->Value} {pp2 pl:Option Addr} {P:List Int} {to dl:Int} {L:List Leg} {K:List AItem} {Q:Value->NA->Prop}
  (hv:PY P L=0) (hM:NC G M=.map []) (p:NC G B12=Vc [.map (some M)]) (W:lim<=M) (f12:fr 12=Vp B12)
  (ad:fr 33=.func (.func 74) #[] #[Vp Bd2,Vp Bn2,Vp Bt2])
  (ag:NC G Bd2=Vc [Vi dl]) (ah:NC G Bn2=Vc (netV pp2 np cpn pl L.length cl)) (ai:NC G Bt2=Vc [Vi to]) (hs:Sl G encL 8 pl L) (hK:Bd2∈Kk/\Bn2∈Kk/\Bt2∈Kk/\∀a,pl=some a->L≠[]->a.block∈Kk) (u:∀b∈Kk,b<G.length/\b≠M) (hF:∀l∈L,Fine l) (aj:L.length<2 ^ 40) (an:0<=dl) (ao:dl<=OQ)
  (hR:∀G' es,(∀k,TN k es=Vm (NN L to dl) k)->NC G' M=.map (Sw kD vL es)->(∀b,b<G.length->b≠M->NC G' b=NC G b)->NC G' G.length=.dfr->G.length+2<=G'.length->PQ E a22 lim (K++[.mark G.length]) fr G' Q) :
  PQ E a22 lim (.code (.rangeF (t 33) [34,35] Vo Vn)::K) fr G Q:=by
 have ak:=UK hM
 have a0:lim<=G.length:=by omega
 have N:=ND p
 have J:B12≠M:=fun e=>by rw [e,hM] at p;cases p
 have mt:OQ=1051898399:=rfl
 have S:NE (ev fr (t 33)) [.func (.yield (G.length+1)) #[] #[]] = some (.inl 74,[.func (.yield (G.length+1)) #[] #[],Vp Bd2,Vp Bn2,Vp Bt2]):=by rw [show ev fr (t 33)=_ from ad];rfl
 rw [Wn S]
 have o:∀b∈Kk,NC (G++[Blk.dfr,.loop ⟨0,none,fr,157,[34,35],Vo,Vn⟩]) b=NC G b:=fun b f=>NJ (u b f).1
 refine Xq (lim:=lim) (Y:=G.length+1) (Bd:=Bd2) (Bn:=Bn2) (Bt:=Bt2) (np:=np) (pp:=pp2) (pl:=pl) (cp:=cpn) (cl:=cl) (L:=L) (to:=to) (dl:=dl)
  (fun rest F G'=>∃done es,done++rest=NN L to dl/\(∀k,TN k es=Vm done k)/\NC G' M=.map (Sw kD vL es)/\NC G' G.length=.dfr/\NC G' (G.length+1)=.loop ⟨0,none,fr,157,[34,35],Vo,Vn⟩/\(∀b,b<G.length->b≠M->NC G' b=NC G b)/\(∀b∈F,b<G'.length/\b≠M/\b≠G.length+1)/\G.length+2<=G'.length) Kk ?_ ?_ ((o _ hK.1).trans ag) ((o _ hK.2.1).trans ah) ((o _ hK.2.2.1).trans ai) (hs.app _) hK ?_ hF aj an ao (by simp;omega) ?_ ?_
 ·rintro rest F aq H H' ⟨done,es,e1,e2,e3,I,C,e6,e7,e8⟩ O am
  have aa:=O.len
  refine ⟨done,es,e1,e2,O.get e3 (UK e3) (by simp),O.get I (by omega) (by simp),O.get C (by omega) (by simp),fun b f h=>by rw [O.other b (by omega) (by simp)];exact e6 b f h,fun b f=>?_,by omega⟩
  rcases am b f with h1 | ⟨h1,h2⟩
  ·have:=e7 b h1
   exact ⟨by omega,this.2⟩
  ·exact ⟨h2,by omega,by omega⟩
 ·rintro x rest F G' ap hx au ⟨done,es,e1,e2,e3,I,C,e6,e7,e8⟩
  obtain ⟨a1,_,d,_,a2,a4,a5⟩:=QR hx
  rw [MV (x:=⟨0,none,fr,157,[34,35],Vo,Vn⟩) C (by omega) rfl rfl]
  rw [show Tc fr [34,35] [.agg (encL x.1).toArray,.agg #[Vi x.2,Vi (x.2+x.1.mins)]] = upd (upd fr 34 (.agg (encL x.1).toArray)) 35 (.agg #[Vi x.2,Vi (x.2+x.1.mins)]) from rfl]
  rw [NP Vo.eq_1]
  refine NI ?_
  obtain ⟨G1,e9,h9,D⟩:=OO (G:=G') (R:=G.length+1) (by omega) (.loop ⟨1,none,fr,157,[34,35],Vo,Vn⟩)
  have gY:=fun X=>(NZ.refl.app (X:=X)).get' C (by omega)
  have V:lim<=G'.length:=by omega
  simp only [NW,NM,V,gY,e9,show lim<=G.length+1 by omega,SB,seval,NG,place,NB]
  rw [NP Vn.eq_1]
  have az:=D.len
  have ac:∀Z,NC (G1++Z) B12=Vc [.map (some M)]:=fun Z=>by rw [NJ (by omega),D.other _ (by omega),e6 B12 N J];exact p
  have kM:∀Z,NC (G1++Z) M=.map (Sw kD vL es):=fun Z=>by rw [NJ (by omega),D.other _ (by omega)];exact e3
  have c5:∀X:NA,NC (G1++X) G'.length=X.getD 0 .dead:=(VA D.len).2.2.1
  have c6:∀(X:NA) (j:Nat),NC (G1++X) (G'.length+j)=X.getD j .dead:=(VA D.len).2.1
  have i:findKey (.agg #[Vi x.1.id,Vi x.2,Vi (x.2+x.1.mins),Vi 0]) (Sw kD vL es) 0=some ((fk (SG x) es 0).map fun y=>(y.1,vL y.2)):=TP (vv:=vL) N1k (SG x) es 0
  have U:TZ (.ints [.i64,.i64,.i64,.i64]) (.agg #[Vi x.1.id,Vi x.2,Vi (x.2+x.1.mins),Vi 0])=true:=N1j (k:=SG x)
  have w:∀k,TN k (XE (SG x) x.1 es)=Vm (done++[x]) k:=fun k=>by
   rw [XZ,Nqy fun c hc e=>Y0 hv c (by rw [<-e1];exact Nz _ hc) x hx e,e2]
  have fin:∀(m:NA),Mut G1 m M->NC m M=.map (Sw kD vL (XE (SG x) x.1 es))->∃g,(∀Z:NA,(m++Z).set (G.length+1) (.loop ⟨0,none,fr,157,[34,35],Vo,Vn⟩)=g++Z)/\(∀Z,NC (m++Z) (G.length+1)=.loop ⟨1,none,fr,157,[34,35],Vo,Vn⟩)/\∀Z,(∃done es,done++rest=NN L to dl/\(∀k,TN k es=Vm done k)/\NC (g++Z) M=.map (Sw kD vL es)/\NC (g++Z) G.length=.dfr/\NC (g++Z) (G.length+1)=.loop ⟨0,none,fr,157,[34,35],Vo,Vn⟩/\(∀b,b<G.length->b≠M->NC (g++Z) b=NC G b)/\(∀b∈F,b<(g++Z).length/\b≠M/\b≠G.length+1)/\G.length+2<=(g++Z).length)/\G'.length<=(g++Z).length/\∀j∈F,NC (g++Z) j=NC G' j:=fun m m2 h2=>by
   have aw:=m2.len
   have y2:NC m (G.length+1)=.loop ⟨1,none,fr,157,[34,35],Vo,Vn⟩:=(m2.other _ (by omega)).trans h9
   obtain ⟨g,e11,ae,A⟩:=OO (G:=m) (R:=G.length+1) (by omega) (.loop ⟨0,none,fr,157,[34,35],Vo,Vn⟩)
   have ay:=A.len
   have kk:∀b,b<G'.length->b≠M->b≠G.length+1->∀Z,NC (g++Z) b=NC G' b:=fun b f q1 q2 Z=>by
    rw [NJ (by omega),A.other b q2,m2.other b q1,D.other b q2]
   refine ⟨g,e11,fun Z=>(NZ.refl.app (X:=Z)).get' y2 (by omega),fun Z=>⟨⟨done++[x],XE (SG x) x.1 es,by rw [Nr];exact e1,w, ?_,(kk _ (by omega) (by omega) (by omega) Z).trans I, ?_,fun b f h=>(kk b (by omega) h (by omega) Z).trans (e6 b f h),fun b f=>?_,by simp;omega⟩,by simp;omega,fun j T=>?_⟩⟩
   ·rw [NJ (by omega),A.other M (by omega)];exact h2
   ·rw [NJ (by omega)];exact ae
   ·have:=e7 b f
    exact ⟨by simp;omega,this.2⟩
   ·have:=e7 j T
    exact kk j this.1 this.2.1 this.2.2 Z
  cases hc:fk (SG x) es 0 with
  | none=>
    rw [hc] at i
    simp only [Ou] at i
    obtain ⟨m,e22,s,z⟩:=OO (G:=G1) (R:=M) (by omega) (.map (Sw kD vL es++[(.agg #[Vi x.1.id,Vi x.2,Vi (x.2+x.1.mins),Vi 0],.agg (encL x.1).toArray)]))
    obtain ⟨g,e11,y2,n⟩:=fin m z (by
     rw [s,<-Ng9 (v':=x.1) hc]
     unfold Sw
     rw [Pi];rfl)
    simp only [f12,NW,SV,OH,ac,kM,c5,c6,i,U,W,e22,y2,e11,show lim<=G.length+1 by omega,SB,seval,NG]
    obtain ⟨⟨d1,r,p1,p2,p3,p4,p5,p6,p7,p8⟩,p9,B⟩:=n [Vc (encL x.1),Vc [Vi x.2,Vi (x.2+x.1.mins)]]
    refine ⟨⟨d1,r,p1,p2,p3,p4,p5,p6,fun b f=>?_, ?_⟩, ?_,B⟩
    ·have:=p7 b f
     simp only [Nb,Nk,Nl] at this⊢
     exact ⟨by omega,this.2⟩
    ·simp only [Nb,Nk,Nl] at p8⊢;omega
    ·simp only [Nb,Nk,Nl] at p9⊢;omega
  | some yy=>
    obtain ⟨j,v⟩:=yy
    rw [hc] at i
    simp only [N0] at i
    obtain ⟨m,e22,s,z⟩:=OO (G:=G1) (R:=M) (by omega) (.map ((Sw kD vL es).set j (.agg #[Vi x.1.id,Vi x.2,Vi (x.2+x.1.mins),Vi 0],.agg (encL x.1).toArray)))
    obtain ⟨g,e11,y2,n⟩:=fin m z (by
     have:=(Ng8 (v':=x.1) hc).2.2
     rw [Nat.sub_zero] at this
     rw [s,<-this]
     unfold Sw
     rw [List.map_set];rfl)
    simp only [f12,NW,SV,OH,ac,kM,c5,c6,i,U,W,e22,y2,e11,show lim<=G.length+1 by omega,SB,seval,NG]
    obtain ⟨⟨d1,r,p1,p2,p3,p4,p5,p6,p7,p8⟩,p9,B⟩:=n [Vc (encL x.1),Vc [Vi x.2,Vi (x.2+x.1.mins)]]
    refine ⟨⟨d1,r,p1,p2,p3,p4,p5,p6,fun b f=>?_, ?_⟩, ?_,B⟩
    ·have:=p7 b f
     simp only [Nb,Nk,Nl] at this⊢
     exact ⟨by omega,this.2⟩
    ·simp only [Nb,Nk,Nl] at p8⊢;omega
    ·simp only [Nb,Nk,Nl] at p9⊢;omega
 ·intro j T;have:=(u j T).1;simp;omega
 ·refine ⟨[],[],rfl,fun k=>rfl,by rw [NJ ak];exact hM,NQ,OM,fun b f _=>NJ f,fun b f=>?_,by simp⟩
  have:=u b f
  exact ⟨by simp;omega,this.2,by omega⟩
 ·rintro G' ⟨done,es,e1,e2,e3,I,C,e6,e7,e8⟩ av aa
  rw [Na] at e1
  subst e1
  rw [Zj C,Nhb]
  show PQ E a22 lim (K++[.mark G.length]) fr _ _
  have q:Mut G' (G'.set (G.length+1) .dead) (G.length+1):=⟨by simp,fun j T=>OU T⟩
  exact hR _ es e2 ((q.other M (by omega)).trans e3) (fun b f h=>by rw [q.other b (by omega)];exact e6 b f h) ((q.other _ (by omega)).trans I) (by rw [q.len];omega)
end Go.Proofs.YtohnaffmcjbpoaaGreat.Fn


namespace Go.Flow
open Go.AM Go.Net
def QY (s:List Src):List Cg:=s.map fun x=>(x.pl,x.rd,x.gr)
def Tp (to dl:Int):List Src->Int
 | []=>0
 | x::s=>(if x.pl=to/\x.rd<=dl then x.gr else 0)+Tp to dl s
def UD (x:Ld):Int×Int×Int:=(x.leg,x.dep,x.arr)
def Ue (C:List (Leg×Int)) (x:Ld):Leg:=(Vm C (UD x)).getD default
def Xh (C:List (Leg×Int)) (x:Ld):List Cg:=[((Ue C x).frm,x.dep-(Ue C x).cut,-x.gr),((Ue C x).dst,x.arr,x.gr)]
def SA (C:List (Leg×Int)) (to:Int):List Ld->Int
 | []=>0
 | x::l=>(if (Ue C x).dst=to then x.gr else 0)+SA C to l
def okX (C:List (Leg×Int)) (ld:List Ld) (i:Nat):Prop:=(∃a,Vm C (UD (gt ld i))=some a/\1<=(gt ld i).gr/\(gt ld i).gr<=a.grams)/\(0<i->RD (gt ld (i-1)) (gt ld i))
def VR (C:List (Leg×Int)) (s:List Src) (ld:List Ld):List Cg:=QY s++ld.flatMap (Xh C)
def X6 (C:List (Leg×Int)) (s:List Src) (ld:List Ld):Prop:=(∀i,i<ld.length->okX C ld i)/\∀p t,0<=QO p t (VR C s ld)
theorem Nka {to dl:Int}:∀{a b:List Src},Tp to dl (a++b)=Tp to dl a+Tp to dl b
 | [],b=>by simp [Tp]
 | x::a,b=>by rw [Oe,Tp,Tp,Nka];omega
theorem Ndo {C:List (Leg×Int)} {to:Int}:∀{a b:List Ld},SA C to (a++b)=SA C to a+SA C to b
 | [],b=>by simp [SA]
 | x::a,b=>by rw [Oe,SA,SA,Ndo];omega
theorem Nhn {to dl:Int}:∀{s:List Src},(∀x∈s,0<=x.gr/\x.gr<=1000000000)->0<=Tp to dl s/\Tp to dl s<=1000000000*s.length
 | [],_=>by simp [Tp]
 | x::s,h=>by
   have ih:=Nhn (to:=to) (dl:=dl) (s:=s) fun y a=>h y (Ni _ a)
   have:=h x Nn
   rw [Tp,Nk]
   split<;>omega
theorem No0 {C:List (Leg×Int)} {to:Int}:∀{l:List Ld},(∀x∈l,0<=x.gr/\x.gr<=1000000000)->0<=SA C to l/\SA C to l<=1000000000*l.length
 | [],_=>by simp [SA]
 | x::s,h=>by
   have ih:=No0 (C:=C) (to:=to) (l:=s) fun y a=>h y (Ni _ a)
   have:=h x Nn
   rw [SA,Nk]
   split<;>omega
end Go.Flow
namespace Go.Proofs.YtohnaffmcjbpoaaGreat.Fn
open Go.AM Go.AM.Sym Go.Net Go.Flow
structure CF (fr:Nat->Value) (p4:Option Addr) (n4 c4:Nat) (to dl:Int) (B12:Nat):Prop where
 f2:fr 2=Vi to
 f3:fr 3=Vi dl
 f4:fr 4=.slice p4 n4 c4
 f12:fr 12=Vp B12
theorem Nzu [OB] {p4 ps:Option Addr} {n4 c4 cs B12:Nat} {to dl:Int} {s:List Flow.Src} {lim:Nat} {G:NA} {fr:Nat->Value} {K:List AItem} {Q:Value->NA->Prop}
  (W:CF fr p4 n4 c4 to dl B12) (hs:Sl G encS 3 ps s) (hn:s.length<=60) (R:∀x∈s,0<=x.gr/\x.gr<=1000000000) (J:lim<=G.length)
  (C:fr 45=.slice ps s.length cs) (D:fr 46=Vi s.length) (F:fr 47=Vi 0) (f15:fr 15=Vi 0) (f16:fr 16=Vz)
  (U:∀fr' G' p c,CF fr' p4 n4 c4 to dl B12->Own G.length G' enc3 3 p c (QY s)->Chg [] G G'->fr' 15=Vi (Tp to dl s)->fr' 16=.slice p s.length c->PQ E a22 lim K fr' G' Q) :
  PQ E a22 lim (.code (.loop Nvs)::.inBlock 2::K) fr G Q:=by
 have L:∀j,(QY (s.take j)).length=min j s.length:=fun j=>by unfold QY;simp
 refine NL (fun z:Nat×Option Addr×Nat=>s.length-z.1) (fun z b G'=>z.1<=s.length/\CF b p4 n4 c4 to dl B12/\b 45=.slice ps s.length cs/\b 46=Vi s.length/\b 47=Vi z.1/\b 15=Vi (Tp to dl (s.take z.1))/\b 16=.slice z.2.1 z.1 z.2.2/\Own G.length G' enc3 3 z.2.1 z.2.2 (QY (s.take z.1))/\Chg [] G G') (0,none,0)
  ⟨Nx _,W,C,D,F,f15,f16,.nil,Chg.refl⟩ ?_
 rintro ⟨j,p,c⟩ b G' ⟨S,⟨q2,q3,y,l⟩,f,d,i,e,g,w,r⟩ H
 simp only at S i e g w
 rw [NP Nvs.eq_1]
 refine NI ?_
 by_cases a:j<s.length
 case neg=>
  obtain rfl:j=s.length:=by omega
  rw [Of] at e w
  simp only [n22,d,i,a,SB,seval,NG,NF]
  exact U _ _ p c ⟨q2,q3,y,l⟩ (w.app _) r.app e g
 have T:=r.sl hs (fun _ _ _=>by simp)
 have M:=fun Z=>(T.app Z).loadCells OP a
 have O:=QM T a rfl
 have t:=r.len
 have k:=L j
 rw [Pw S] at k
 have B:QY (s.take (j+1))=QY (s.take j)++[((gt s j).pl,(gt s j).rd,(gt s j).gr)]:=by unfold QY;rw [QI a,Pi];rfl
 have q:Tp to dl (s.take (j+1))=Tp to dl (s.take j)+(if (gt s j).pl=to/\(gt s j).rd<=dl then (gt s j).gr else 0):=by
  rw [QI a,Nka]
  show _+(_+0)=_
  omega
 have V:=Nhn (to:=to) (dl:=dl) (s:=s.take j) fun x hx=>R x (P0 hx)
 rw [N6] at V
 have X:=R _ (PW a)
 obtain ⟨P,e2,u,A,K2,Y,I⟩:=w.step (lim':=lim) (bytes:=24) J Vh (by decide) ((gt s j).pl,(gt s j).rd,(gt s j).gr) (by rw [k];unfold OT;omega) (by rw [k];omega) t [Vc (encS (gt s j)),Vc (enc3 ((gt s j).pl,(gt s j).rd,(gt s j).gr))] (G'.length+1) 1 (by rw [OM];rfl)
 rw [k] at e2
 simp only [Nk,Nl,Ny,Nat.reduceAdd] at e2 u
 have m:OJ lim none 3 24 false (.slice p j c) (.slice (Sa (G'.length+1)) 1 1) (G'++[Vc (encS (gt s j)),Vc [Vi (gt s j).pl,Vi (gt s j).rd,Vi (gt s j).gr]])=some (.slice (Sa (G'.length+2)) (j+1) (loose 3),P++[]):=e2
 have o:∀Z,NC (P++Z) G'.length=Vc (encS (gt s j)):=fun Z=>by
  have:=I 0 (by simp)
  rw [Od,Na] at this
  exact (NZ.refl.app).cells (this.trans rfl)
 have N:IntKind.i64.wrap ((j:Int)+1)=((j+1:Nat):Int):=NS (by omega)
 have wa:IntKind.i64.wrap (Tp to dl (s.take j)+(gt s j).gr)=Tp to dl (s.take j)+(gt s j).gr:=NY (by omega) (by omega)
 have n:lim<=G'.length:=by omega
 by_cases g1:(gt s j).pl=to
 ·by_cases v:(gt s j).rd<=dl
  ·rw [Nh ⟨g1,v⟩] at q
   simp only [n22,q2,q3,f,d,i,e,g,a,M,O,OP,SS,Tj,Vs,NM,m,o,N,wa,n,Nq g1,Nq v,SB,seval,NG,NF,place,NB]
   exact H (j+1,Sa (G'.length+2),loose 3) _ _ ⟨by show j+1<=_;omega,⟨q2,q3,y,l⟩,f,d,rfl,by rw [q];exact rfl,rfl,by rw [B];exact u,A [] G (Ng _) r⟩ (by show s.length-(j+1)<s.length-j;omega)
  ·rw [Nf fun h=>v h.2,Ox] at q
   simp only [n22,q2,q3,f,d,i,g,a,M,O,OP,SS,Tj,Vs,NM,m,o,N,n,Nq g1,Nm v,SB,seval,NG,NF,place,NB]
   exact H (j+1,Sa (G'.length+2),loose 3) _ _ ⟨by show j+1<=_;omega,⟨q2,q3,y,l⟩,f,d,rfl,by rw [q];exact e,rfl,by rw [B];exact u,A [] G (Ng _) r⟩ (by show s.length-(j+1)<s.length-j;omega)
 ·rw [Nf fun h=>g1 h.1,Ox] at q
  simp only [n22,q2,f,d,i,g,a,M,O,OP,SS,Tj,Vs,NM,m,o,N,n,Nm g1,SB,seval,NG,NF,place,NB]
  exact H (j+1,Sa (G'.length+2),loose 3) _ _ ⟨by show j+1<=_;omega,⟨q2,q3,y,l⟩,f,d,rfl,by rw [q];exact e,rfl,by rw [B];exact u,A [] G (Ng _) r⟩ (by show s.length-(j+1)<s.length-j;omega)
theorem Nzv [OB] {p4:Option Addr} {c4 M B12 c0:Nat} {p0:Option Addr} {to dl:Int} {s:List Flow.Src} {ld:List Flow.Ld} {C:List (Leg×Int)} {es:List ((Int×Int×Int)×Leg)} {lim:Nat} {G Gs:NA} {fr:Nat->Value} {K:List AItem} {Q:Value->NA->Prop}
  (hf:CF fr p4 ld.length c4 to dl B12) (hs:Sl G QJ 4 p4 ld) (hn:ld.length<=200) (bb:s.length<=60) (a5:∀x∈s,0<=x.gr/\x.gr<=1000000000) (hC:∀c∈C,Fine c.1/\0<=c.2/\c.2+c.1.mins<=OQ) (a4:lim<=G.length)
  (ap:NC G B12=Vc [.map (some M)]) (hM:NC G M=.map (Sw kD vL es)) (a0:∀k,TN k es=Vm C k) (aq:Chg [] G Gs) (hO:Own G.length Gs enc3 3 p0 c0 (QY s))
  (am:fr 76=.slice p4 ld.length c4) (an:fr 77=Vi ld.length) (ao:fr 78=Vi 0) (f15:fr 15=Vi (Tp to dl s)) (f16:fr 16=.slice p0 s.length c0)
  (ag:∀fr' G',fr' 10=Vi 0->fr' 11=.bool false->Chg [] G G'->(∃i,i<ld.length/\¬okX C ld i)->PQ E a22 lim (.code .retM::K) fr' G' Q)
  (hK:∀fr' G' p c,CF fr' p4 ld.length c4 to dl B12->Own G.length G' enc3 3 p c (VR C s ld)->Chg [] G G'->(∀i,i<ld.length->okX C ld i)->fr' 15=Vi (Tp to dl s+SA C to ld)->fr' 16=.slice p (VR C s ld).length c->PQ E a22 lim K fr' G' Q) :
  PQ E a22 lim (.code (.loop Nvt)::.inBlock 4::K) fr Gs Q:=by
 have L:=fun fr' G' h1 h2 h3 h4=>cast (Nkj (E:=E) (af:=a22) (lim:=lim) (K:=K)) (ag fr' G' h1 h2 h3 h4)
 have a2:∀l:List Flow.Ld,(l.flatMap (Xh C)).length=2*l.length:=fun l=>by
  induction l with
  | nil=>rfl
  | cons x l ih=>rw [N2,Nb,ih,Nk];show 2+_=_;omega
 have ai:∀j,j<=ld.length->(VR C s (ld.take j)).length=s.length+2*j:=fun j hj=>by
  unfold VR QY
  rw [Nb,On,a2,N6];omega
 refine NL (fun z:Nat×Option Addr×Nat=>ld.length-z.1) (fun z A G'=>z.1<=ld.length/\CF A p4 ld.length c4 to dl B12/\A 76=.slice p4 ld.length c4/\A 77=Vi ld.length/\A 78=Vi z.1/\A 15=Vi (Tp to dl s+SA C to (ld.take z.1))/\A 16=.slice z.2.1 (s.length+2*z.1) z.2.2/\Own G.length G' enc3 3 z.2.1 z.2.2 (VR C s (ld.take z.1))/\Chg [] G G'/\∀i,i<z.1->okX C ld i) (0,p0,c0)
  ⟨Nx _,hf,am,an,ao,by rw [show SA C to (ld.take 0)=0 from rfl,Ox];exact f15,f16,by rw [show VR C s (ld.take 0)=QY s from Na _];exact hO,aq,fun i hi=>by omega⟩ ?_
 rintro ⟨j,p,c⟩ A G' ⟨hj,⟨q2,q3,U,d⟩,g,e,t,B,I,F,q,o⟩ hN
 simp only at hj t B I F o
 rw [NP Nvt.eq_1]
 refine NI ?_
 by_cases b:j<ld.length
 case neg=>
  obtain rfl:j=ld.length:=by omega
  have H:=ai ld.length (Ng _)
  rw [Of] at B F H
  simp only [n22,e,t,b,SB,seval,NG,NF]
  exact hK _ _ p c ⟨q2,q3,U,d⟩ (F.app _) q.app o B (by rw [H];exact I)
 have H:=ai j hj
 have sG:=q.sl hs (fun _ _ _=>by simp)
 have T:=fun Z=>(sG.app Z).loadCells NV b
 have V:=QM sG b rfl
 have bc:=q.len
 have v:lim<=G'.length:=by omega
 have au:=UK hM
 have w:=fun Z=>(NZ.refl.app (X:=Z)).cells (q.cells ap (by simp))
 have kM:∀Z,NC (G'++Z) M=.map (Sw kD vL es):=fun Z=>by rw [NJ (by omega)];exact q.get hM au (by simp)
 have f:findKey (.agg #[Vi (gt ld j).leg,Vi (gt ld j).dep,Vi (gt ld j).arr,Vi 0]) (Sw kD vL es) 0=some ((fk (UD (gt ld j)) es 0).map fun y=>(y.1,vL y.2)):=TP (vv:=vL) N1k (UD (gt ld j)) es 0
 have u:TZ (.ints [.i64,.i64,.i64,.i64]) (.agg #[Vi (gt ld j).leg,Vi (gt ld j).dep,Vi (gt ld j).arr,Vi 0])=true:=N1j (k:=UD (gt ld j))
 have r:=W9 (UD (gt ld j)) es 0
 rw [a0] at r
 have w1:IntKind.i64.wrap ((j:Int)+1)=((j+1:Nat):Int):=NS (by omega)
 cases hc:fk (UD (gt ld j)) es 0 with
 | none=>
   rw [hc] at f r
   simp only [Ou] at f r
   simp only [n22,r22,d,g,e,t,b,T,V,w,kM,f,u,v,NM,NV,Sq,Sn,Tx,SB,seval,NG,NF,QV,place,NB]
   exact L _ _ rfl rfl q.app ⟨j,b,fun ⟨⟨n,h1,_⟩,_⟩=>by rw [<-r] at h1;cases h1⟩
 | some yy=>
   obtain ⟨jj,n⟩:=yy
   rw [hc] at f r
   simp only [N0,vL] at f r
   have aj:Ue C (gt ld j)=n:=by unfold Ue;rw [<-r];rfl
   obtain ⟨cc,az,ah,a1⟩:=TU r.symm
   obtain ⟨ad,be,aw⟩:=hC cc az
   rw [a1] at ad aw
   unfold SG UD at ah
   obtain ⟨bf,bg,bh⟩:cc.1.id=(gt ld j).leg/\cc.2=(gt ld j).dep/\cc.2+cc.1.mins=(gt ld j).arr:=by
    have:=Prod.mk.inj ah
    exact ⟨this.1,(Prod.mk.inj this.2).1,(Prod.mk.inj this.2).2⟩
   have ae:=ad
   unfold Fine at ae
   have mt:OQ=1051898399:=rfl
   by_cases g1:(gt ld j).gr<1
   ·simp only [n22,r22,d,g,e,t,b,T,V,w,kM,f,u,v,NM,NV,Sq,Sn,Tx,Ug,NW,Nq g1,SB,seval,NG,NF,QV,place,NB]
    exact L _ _ rfl rfl q.app ⟨j,b,fun ⟨⟨n,h1,h2,_⟩,_⟩=>by omega⟩
   by_cases g2:n.grams<(gt ld j).gr
   ·simp only [n22,r22,d,g,e,t,b,T,V,w,kM,f,u,v,NM,NV,Sq,Sn,Tx,Ug,NW,Uf,Nm g1,Nq g2,SB,seval,NG,NF,QV,place,NB]
    exact L _ _ rfl rfl q.app ⟨j,b,fun ⟨⟨bk,h1,h2,h3⟩,_⟩=>by rw [<-r] at h1;cases h1;omega⟩
   have ac:0<j->IntKind.i64.wrap ((j:Int)-1)=((j-1:Nat):Int):=fun h=>by rw [NY (by omega) (by omega)];omega
   by_cases g3:0<j/\¬RD (gt ld (j-1)) (gt ld j)
   ·have Y:0<(j:Int):=by omega
    have g5:0<=Nmq (gt ld (j-1)) (gt ld j):=by
     have:=g3.2
     rw [<-Ndb] at this;omega
    have P:=fun Z=>(sG.app Z).loadCells NV (i:=j-1) (by omega)
    have R:=QM (i:=j-1) sG (by omega) rfl
    simp only [n22,r22,U,d,g,e,t,b,T,V,w,kM,f,u,v,NM,NV,Sq,Sn,Tx,Ug,NW,Uf,OH,Nm g1,Nm g2,Nq Y,ac g3.1,P,R,Xt,Nq g5,SB,seval,NE,NG,NF,QV,place,NB]
    exact L _ _ rfl rfl q.app ⟨j,b,fun ⟨_,h⟩=>g3.2 (h g3.1)⟩
   have N:okX C ld j:=⟨⟨n,r.symm,by omega,by omega⟩,fun h0=>Ns fun hh=>g3 ⟨h0,hh⟩⟩
   have eT:ld.take (j+1)=ld.take j++[gt ld j]:=QI b
   have eC:VR C s (ld.take (j+1))=VR C s (ld.take j)++[(n.frm,(gt ld j).dep-n.cut,-(gt ld j).gr),(n.dst,(gt ld j).arr,(gt ld j).gr)]:=by
    unfold VR
    rw [eT,Oy,<-Nr,N2,Qs,Na]
    show _++Xh C (gt ld j)=_
    unfold Xh
    rw [aj]
   have S:Tp to dl s+SA C to (ld.take (j+1))=Tp to dl s+SA C to (ld.take j)+(if n.dst=to then (gt ld j).gr else 0):=by
    rw [eT,Ndo]
    show _+(_+((if (Ue C (gt ld j)).dst=to then (gt ld j).gr else 0)+0))=_
    rw [aj];omega
   have aa:∀x∈ld.take j,0<=x.gr/\x.gr<=1000000000:=fun x hx=>by
    obtain ⟨i,hi,rfl⟩:=List.mem_iff_getElem.1 hx
    rw [N6] at hi
    obtain ⟨⟨l2,h1,h2,h3⟩,_⟩:=o i (by omega)
    obtain ⟨c2,ay,_,hk⟩:=TU h1
    have:=(hC c2 ay).1
    rw [hk] at this
    unfold Fine at this
    rw [List.getElem_take,<-OI (by omega)]
    omega
   have av:=No0 (C:=C) (to:=to) aa
   rw [N6] at av
   have bd:=Nhn (to:=to) (dl:=dl) a5
   have wd:IntKind.i64.wrap ((gt ld j).dep-n.cut)=(gt ld j).dep-n.cut:=NY (by omega) (by omega)
   have wn:IntKind.i64.wrap (0-(gt ld j).gr)=-(gt ld j).gr:=by rw [Int.zero_sub];exact NY (by omega) (by omega)
   have wa:IntKind.i64.wrap (Tp to dl s+SA C to (ld.take j)+(gt ld j).gr)=Tp to dl s+SA C to (ld.take j)+(gt ld j).gr:=NY (by omega) (by omega)
   obtain ⟨G2,p',c',e2,O2,C2,K2,ba⟩:=(F.app [Vc (QJ (gt ld j)),Vc (encL n)]).more (lim':=lim) (bytes:=24) a4 Vh (by decide) [(n.frm,(gt ld j).dep-n.cut,-(gt ld j).gr),(n.dst,(gt ld j).arr,(gt ld j).gr)] (by rw [H];simp;unfold OT;omega) (by rw [H];simp;omega) (by simp;omega) [Vc [Vi n.frm,Vi ((gt ld j).dep-n.cut),Vi (-(gt ld j).gr),Vi n.dst,Vi (gt ld j).arr,Vi (gt ld j).gr]] (x:=.slice (Sa (G'.length+2)) 2 2) (str:=false)
    (QH (m:=[(n.frm,(gt ld j).dep-n.cut,-(gt ld j).gr),(n.dst,(gt ld j).arr,(gt ld j).gr)]) (Sl.row (ro:=false) Vh (by rw [Nr,OM];rfl))) rfl
   rw [H] at e2
   simp only [Nk,Nl,Ny,Nat.reduceAdd,Nr,Oe,Oa] at e2 O2
   have ak:∀Z,NC (G2++Z) G'.length=Vc (QJ (gt ld j)):=fun Z=>by
    have:=K2 G'.length (by simp) fun a ha=>by have:=(F.block ha).2;omega
    rw [Na,NQ] at this
    exact (NZ.refl.app).cells this
   have O:∀Z,NC (G2++Z) (G'.length+1)=Vc (encL n):=fun Z=>by
    have:=K2 (G'.length+1) (by simp) fun a ha=>by have:=(F.block ha).2;omega
    rw [Na,OM] at this
    exact (NZ.refl.app).cells this
   have D:Chg [] G (G2++[]):=C2 [] G (Ng _) q.app
   by_cases W:0<j
   ·have Y:0<(j:Int):=by omega
    have g5:¬0<=Nmq (gt ld (j-1)) (gt ld j):=by
     have:RD (gt ld (j-1)) (gt ld j):=Ns fun hh=>g3 ⟨W,hh⟩
     rw [<-Ndb] at this;omega
    have P:=fun Z=>(sG.app Z).loadCells NV (i:=j-1) (by omega)
    have R:=QM (i:=j-1) sG (by omega) rfl
    by_cases J:n.dst=to
    ·rw [Nh J] at S
     simp only [n22,b,T,V,w,kM,f,u,v,NM,NV,Sq,Sn,Tx,Ug,NW,QB,QU,RZ,Uf,OH,Nm g1,Nm g2,Nq Y,ac W,P,R,Xt,Nm g5,n22,q2,U,d,g,e,t,B,I,ak,O,wd,wn,wa,w1,NV,Sq,Sn,Tx,Ug,NW,QB,QU,RZ,Uf,OH,e2,Nq J,SB,seval,NE,NG,NF,QV,place,NB]
     exact hN (j+1,p',c') _ _ ⟨by show j+1<=_;omega,⟨q2,q3,U,d⟩,g,e,rfl,by rw [S];exact rfl,by rw [show s.length+2*(j+1)=s.length+(2*j+2) by omega];exact rfl,by rw [eC];exact O2,D,fun i hi=>by rcases (by omega:i<j\/i=j) with h | h;exact o i h;rw [h];exact N⟩ (by show ld.length-(j+1)<ld.length-j;omega)
    ·rw [Nf J,Ox] at S
     simp only [n22,b,T,V,w,kM,f,u,v,NM,NV,Sq,Sn,Tx,Ug,NW,QB,QU,RZ,Uf,OH,Nm g1,Nm g2,Nq Y,ac W,P,R,Xt,Nm g5,n22,q2,U,d,g,e,t,I,O,wd,wn,w1,NV,Sq,Sn,Tx,Ug,NW,QB,QU,RZ,Uf,OH,e2,Nm J,SB,seval,NE,NG,NF,QV,place,NB]
     exact hN (j+1,p',c') _ _ ⟨by show j+1<=_;omega,⟨q2,q3,U,d⟩,g,e,rfl,by rw [S];exact B,by rw [show s.length+2*(j+1)=s.length+(2*j+2) by omega];exact rfl,by rw [eC];exact O2,D,fun i hi=>by rcases (by omega:i<j\/i=j) with h | h;exact o i h;rw [h];exact N⟩ (by show ld.length-(j+1)<ld.length-j;omega)
   ·have Y:¬0<(j:Int):=by omega
    by_cases J:n.dst=to
    ·rw [Nh J] at S
     simp only [n22,b,T,V,w,kM,f,u,v,NM,NV,Sq,Sn,Tx,Ug,NW,QB,QU,RZ,Uf,Nm g1,Nm g2,Nm Y,n22,q2,d,g,e,t,B,I,ak,O,wd,wn,wa,w1,NV,Sq,Sn,Tx,Ug,NW,QB,QU,RZ,Uf,e2,Nq J,SB,seval,NG,NF,QV,place,NB]
     exact hN (j+1,p',c') _ _ ⟨by show j+1<=_;omega,⟨q2,q3,U,d⟩,g,e,rfl,by rw [S];exact rfl,by rw [show s.length+2*(j+1)=s.length+(2*j+2) by omega];exact rfl,by rw [eC];exact O2,D,fun i hi=>by rcases (by omega:i<j\/i=j) with h | h;exact o i h;rw [h];exact N⟩ (by show ld.length-(j+1)<ld.length-j;omega)
    ·rw [Nf J,Ox] at S
     simp only [n22,b,T,V,w,kM,f,u,v,NM,NV,Sq,Sn,Tx,Ug,NW,QB,QU,RZ,Uf,Nm g1,Nm g2,Nm Y,n22,q2,d,g,e,t,I,O,wd,wn,w1,NV,Sq,Sn,Tx,Ug,NW,QB,QU,RZ,Uf,e2,Nm J,SB,seval,NG,NF,QV,place,NB]
     exact hN (j+1,p',c') _ _ ⟨by show j+1<=_;omega,⟨q2,q3,U,d⟩,g,e,rfl,by rw [S];exact B,by rw [show s.length+2*(j+1)=s.length+(2*j+2) by omega];exact rfl,by rw [eC];exact O2,D,fun i hi=>by rcases (by omega:i<j\/i=j) with h | h;exact o i h;rw [h];exact N⟩ (by show ld.length-(j+1)<ld.length-j;omega)
noncomputable def Ur (P:List Int) (L:List Leg) (s:List Flow.Src) (to dl:Int) (ld:List Flow.Ld):Int×Bool:=
 haveI:=Classical.propDecidable (OD P L s to dl=0/\X6 (NN L to dl) s ld)
 if OD P L s to dl=0/\X6 (NN L to dl) s ld then (Tp to dl s+SA (NN L to dl) to ld,true) else (0,false)
theorem VC {P:List Int} {L:List Leg} {s:List Flow.Src} {to dl:Int} {ld:List Flow.Ld} (h:¬(OD P L s to dl=0/\X6 (NN L to dl) s ld)):Ur P L s to dl ld=(0,false):=by
 unfold Ur
 rw [Nf h]
theorem Xu {P:List Int} {L:List Leg} {s:List Flow.Src} {to dl:Int} {ld:List Flow.Ld} (h1:OD P L s to dl=0) (h2:X6 (NN L to dl) s ld):Ur P L s to dl ld=(Tp to dl s+SA (NN L to dl) to ld,true):=by
 unfold Ur
 rw [Nh ⟨h1,h2⟩]
theorem Nxe [OB] {mp:Bool} {lim:Nat} {pp pl ps p4:Option Addr} {P:List Int} {L:List Leg} {s:List Flow.Src} {ld:List Flow.Ld} {cp cl cs c4:Nat} {to dl:Int} {H:NA} {Q:Value->NA->Prop} (hn:NetIn H pp pl P L) (S:Sl H encS 3 ps s) (J:s.length<2 ^ 63) (q:Sl H QJ 4 p4 ld) (ag:ld.length<=200) (V:PY P L=0->L.length<=8) :
  NR E mp lim 22 [.agg (netV pp P.length cp pl L.length cl).toArray,.slice ps s.length cs,Vi to,Vi dl,.slice p4 ld.length c4] H Q=Q (.tuple #[Vi (Ur P L s to dl ld).1,.bool (Ur P L s to dl ld).2]) H:=by
 refine pc (by decide) e22 rfl rfl ?_
 rw [b22,c22]
 have au:H.length<=H.length:=Ng _
 by_cases j:OD P L s to dl=0
 case neg=>
  rw [VC fun h=>j h.1]
  simp only [n22,r22,OC,TS (hn.app _) (S.app _) J,Nm j,SB,seval,NE,NG,NF,NK,place,NB,NH]
 have k:=Sy j
 have ay:=V (RU j)
 have aw:=S9 (to:=to) (dl:=dl) k.net.fine
 have B:∀c∈NN L to dl,Fine c.1/\0<=c.2/\c.2+c.1.mins<=OQ:=fun c hc=>by
  obtain ⟨h1,h2,d,_,R,q,h5⟩:=QR hc
  have:=k.d1
  exact ⟨k.net.fine _ h1,by omega,by omega⟩
 have N:∀a,pl=some a->L≠[]->a.block<H.length:=fun a j ah=>by
  have:=hn.sl
  rw [j] at this
  exact this.lt ah
 simp only [n22,OC,TS (hn.app _) (S.app _) J,j,SB,seval,NE,NG,NF,NK,place,NB]
 refine Zn ?_
 rw [Wo,YD]
 try simp only [Nr,Oe,Oa,Nb,Nk,Nl,Ny,Nat.reduceAdd,P4]
 obtain ⟨G0,e⟩:∃G0,G0=H++[Vc (netV pp P.length cp pl L.length cl),Blk.map [],Vc [.map (some (H.length+1))],Vc (netV pp P.length cp pl L.length cl),Vc [Vi to],Vc [Vi dl]]:=⟨_,rfl⟩
 have b1:NC G0 (H.length+1)=.map []:=by rw [e];exact OM
 have b2:NC G0 (H.length+2)=Vc [.map (some (H.length+1))]:=by rw [e];exact OM
 have b3:NC G0 (H.length+3)=Vc (netV pp P.length cp pl L.length cl):=by rw [e];exact OM
 have b4:NC G0 (H.length+4)=Vc [Vi to]:=by rw [e];exact OM
 have b5:NC G0 (H.length+5)=Vc [Vi dl]:=by rw [e];exact OM
 have bo:∀b,b<H.length->NC G0 b=NC H b:=fun b z=>by rw [e];exact NJ z
 have bl:G0.length=H.length+6:=by rw [e];simp
 have an:Sl G0 encL 8 pl L:=by rw [e];exact hn.sl.app _
 have ao:Sl G0 encS 3 ps s:=by rw [e];exact S.app _
 have ak:Sl G0 QJ 4 p4 ld:=by rw [e];exact q.app _
 rw [<-e]
 clear e
 refine Nyz (M:=H.length+1) (B12:=H.length+2) (Bd2:=H.length+5) (Bn2:=H.length+3) (Bt2:=H.length+4) (np:=P.length) (cpn:=cp) (cl:=cl) (pp2:=pp) (pl:=pl) (L:=L) (to:=to) (dl:=dl) (Kk:=(H.length+3)::(H.length+4)::(H.length+5)::List.range H.length) (RU j) b1 b2 (by omega) rfl rfl b5 b3 b4 an ⟨by simp,by simp,by simp,fun a f g=>by simp [N a f g]⟩ (fun b z=>?_) k.net.fine (by omega) k.d0 k.d1 fun G1 es Z W t n ae=>?_
 ·simp only [Nu,List.mem_range] at z
  omega
 rw [bl] at ae
 have ap:Sl G1 encS 3 ps s:=Xa ao fun a f g=>by
  have h1:a.block<H.length:=by
   have:=S;rw [f] at this;exact this.lt g
  exact t _ (by omega) (by omega)
 have am:Sl G1 QJ 4 p4 ld:=Xa ak fun a f g=>by
  have h1:a.block<H.length:=by
   have:=q;rw [f] at this;exact this.lt g
  exact t _ (by omega) (by omega)
 have T:NC G1 (H.length+2)=Vc [.map (some (H.length+1))]:=(t _ (by omega) (by omega)).trans b2
 have u:∀x∈s,0<=x.gr/\x.gr<=1000000000:=fun x hx=>(k.src x hx).2.2.2
 have o:s.length<=60:=by have:=k.ns;omega
 rw [show ∀(a b c d:AItem),[a,b,c]++[d]=[a,b,c,d] from fun _ _ _ _=>rfl]
 refine NI ?_
 simp only [n22,SB,seval,NG,NK]
 refine Nzu (p4:=p4) (n4:=ld.length) (c4:=c4) (cs:=cs) (B12:=H.length+2) (to:=to) (dl:=dl) ⟨rfl,rfl,rfl,rfl⟩ (ap.app _) o u (by simp;omega) rfl rfl rfl rfl rfl fun av G2 p c aa D r v w=>?_
 obtain ⟨q2,q3,q4,O⟩:=aa
 simp only [Na] at D r
 have I:=r.len
 refine NI ?_
 simp only [n22,q4,SB,seval,NG]
 have aj:∀fr' G',fr' 10=Vi 0->fr' 11=.bool false->Chg [] G1 G'->¬X6 (NN L to dl) s ld->∀K,PQ E a22 H.length [.code .retM,.code K,.code .retM,.mark G0.length] fr' G' fun v' x=>v'=Value.tuple #[Value.int IntKind.i64 (Ur P L s to dl ld).fst,Value.bool (Ur P L s to dl ld).snd]:=fun fr' G' h1 h2 R q K=>by
  have hd:NC G' G0.length=.dfr:=R.get n (by omega) (by simp)
  rw [VC fun h=>q h.2]
  simp only [r22,h1,h2,hd,show H.length<=G0.length by omega,SB,seval,NH]
 refine Nzv (p4:=p4) (c4:=c4) (B12:=H.length+2) (M:=H.length+1) (s:=s) (C:=NN L to dl) (es:=es) (to:=to) (dl:=dl) ⟨q2,q3,q4,O⟩ am ag o u B (by omega) T W Z (by rw [Na];exact r) (D.app _) rfl rfl rfl v w (fun U G3 h1 h2 R q=>?_) fun U G3 p3 c3 ac F A m v w=>?_
 ·obtain ⟨i,hi,ai⟩:=q
  exact aj _ _ h1 h2 R (fun h=>ai (h.1 i hi)) _
 obtain ⟨q2,q3,q4,O⟩:=ac
 have az:=A.len
 have aq:(VR (NN L to dl) s ld).length<=500:=by
  unfold VR QY
  rw [Nb,On]
  have I:∀l:List Flow.Ld,(l.flatMap (Xh (NN L to dl))).length=2*l.length:=fun l=>by
   induction l with
   | nil=>rfl
   | cons x l ih=>rw [N2,Nb,ih,Nk];show 2+_=_;omega
  rw [I];omega
 have X:∀x∈VR (NN L to dl) s ld,-100000000000<=x.2.2/\x.2.2<=100000000000:=fun x hx=>by
  rcases Nv.1 hx with h1 | h1
  ·obtain ⟨y,hy,rfl⟩:=List.mem_map.1 h1
   have:=u y hy
   show _<=y.gr/\y.gr<=_;omega
  ·obtain ⟨y,hy,h2⟩:=List.mem_flatMap.1 h1
   obtain ⟨i,hi,rfl⟩:=List.mem_iff_getElem.1 hy
   obtain ⟨⟨lg,g1,g2,g3⟩,_⟩:=m i hi
   obtain ⟨c2,Y,_,hk⟩:=TU g1
   have hF:=(B c2 Y).1
   rw [hk] at hF
   unfold Fine at hF
   rw [OI hi] at g2 g3
   unfold Xh at h2
   simp only [Nu,O8,or_false] at h2
   rcases h2 with rfl | rfl
   ·show _<=-ld[i].gr/\-ld[i].gr<=_;omega
   ·show _<=ld[i].gr/\ld[i].gr<=_;omega
 refine NI ?_
 simp only [n22,w,SB,seval,NE,NG]
 refine Nrm (F.app _) (by omega) (by simp;omega) (by omega) X fun b G4 z ad=>?_
 have G:NC G3 G0.length=.dfr:=A.get n (by omega) (by simp)
 have hd:NC G4 G0.length=.dfr:=by
  rw [ad _ (by simp;omega) (Nnq F G),Na];exact G
 cases b with
 | true=>
   rw [Xu j ⟨m,z.1 rfl⟩]
   simp only [n22,r22,v,hd,show H.length<=G0.length by omega,SB,seval,NG,QV,NH]
 | false=>
   rw [VC fun h=>by cases z.2 h.2.2]
   simp only [n22,r22,hd,show H.length<=G0.length by omega,SB,seval,NG,QV,NH]
end Go.Proofs.YtohnaffmcjbpoaaGreat.Fn


namespace Go.Flow
open Go.AM Go.Net
def WX:List Pr->List Pr->Prop
 | [],[]=>True
 | p::a,q::b=>(q.head=p.head/\q.tail=p.tail/\0<=q.flow/\q.flow<=p.room)/\WX a b
 | _,_=>False
theorem Nnu:∀{a b:List Pr},b.length=a.length->(∀j,j<a.length->(gt b j).head=(gt a j).head/\(gt b j).tail=(gt a j).tail/\0<=(gt b j).flow/\(gt b j).flow<=(gt a j).room)->WX a b
 | [],[],_,_=>trivial
 | [],q::b,h,_=>by simp at h
 | p::a,[],h,_=>by simp at h
 | p::a,q::b,h,hj=>⟨hj 0 (by simp),Nnu (by simpa using h) fun j c=>by have:=hj (j+1) (by simpa using c);rw [OV,OV] at this;exact this⟩
theorem WX.split:∀{a b l:List Pr},WX (a++b) l->WX a (l.take a.length)/\WX b (l.drop a.length)
 | [],b,l,h=>⟨by simp [WX],h⟩
 | p::a,b,[],h=>by simp [WX] at h
 | p::a,b,q::l,h=>by
   obtain ⟨h1,h2⟩:=h
   obtain ⟨c,d⟩:=WX.split h2
   exact ⟨⟨h1,c⟩,d⟩
theorem WX.mem:∀{a b:List Pr},WX a b->∀q∈b,∃p∈a,q.head=p.head/\q.tail=p.tail/\0<=q.flow/\q.flow<=p.room
 | [],[],_,q,hq=>by cases hq
 | [],q'::b,h,_,_=>by cases h
 | p::a,[],h,_,_=>by cases h
 | p::a,q'::b,h,q,hq=>by
   rcases Nu.1 hq with rfl | hq
   ·exact ⟨p,Nn,h.1⟩
   ·obtain ⟨c,h1,h2⟩:=WX.mem h.2 q hq
    exact ⟨c,Ni _ h1,h2⟩
theorem Ngw {S:Nat->Bool}:∀{a b:List Pr},net S (a++b)=net S a+net S b
 | [],b=>by simp [net]
 | p::a,b=>by rw [Oe,net,net,Ngw];omega
theorem IsFlow.inner {n:Nat} {l:List Pr} (h:IsFlow n l) {S:Nat->Bool} (a:S 0=false) (h1:S 1=false):net S l=0:=by
 have h2:=Z5 (S:=S) h.lt
 rw [Z4 h.bal n h.two,a,h1] at h2
 simp at h2
 omega
section
variable {PL:List (Int×Int)} {to dl:Int} {s:List Src} {C:List (Leg×Int)} {l:List Pr}
theorem Nlr (h:PlOk PL to dl s C) (g:∀x∈s,0<=x.gr) (e:∀c∈C,0<=c.1.grams) (a:Alike (RL PL to dl s C) l) (f:IsFlow (PL.length+2) l):WX (RL PL to dl s C) l:=by
 refine Nnu a.len fun j d=>?_
 obtain ⟨e1,e2⟩:=a.gts j
 have b:j<l.length:=by rw [a.len];exact d
 have hn:=f.nn _ (PW b)
 have hc:=a.cap (2*j) (by omega)
 rw [show tw (2*j)=2*j+1 by unfold tw;rw [Nh (by omega)],Xd,YZ,Xd,YZ] at hc
 have i:=(TV h g e (PW d)).2.2.2
 exact ⟨e1,e2,hn.2,by omega⟩
def Mo (PL:List (Int×Int)) (p t:Int) (v:Nat):Bool:=match v with
 | 0=>false
 | 1=>false
 | i+2=>decide (i<PL.length)&&decide ((gt PL i).1=p/\(gt PL i).2<=t)
theorem Mm {p t q u:Int} (hp:p≠to) (h:q≠to->(q,u)∈PL):Mo PL p t (PV PL to q u)=decide (q=p/\u<=t):=by
 by_cases a:q=to
 ·unfold PV
  rw [Nh a]
  show false=_
  rw [eq_comm,decide_eq_false_iff_not]
  rintro ⟨e,_⟩
  exact hp (e▸a)
 ·obtain ⟨h1,h2,b⟩:=V9 a (h a)
  rw [h1]
  show (decide (PL.idxOf (q,u)<PL.length)&&decide ((gt PL (PL.idxOf (q,u))).1=p/\(gt PL (PL.idxOf (q,u))).2<=t))=_
  rw [b,No h2];rfl
theorem Nrv {p t:Int} (h:PlOk PL to dl s C) {A:List Pr} (f:WX (PH PL 2) A):0<=net (Mo PL p t) A:=by
 refine (Ya fun q g=>?_).1
 obtain ⟨i,c,e1,e2,e3,_⟩:=f.mem q g
 refine ⟨e3,fun b=>?_⟩
 obtain ⟨j,h1,h2,rfl⟩:=Us.1 c
 rw [e1] at b
 rw [e2]
 have d:Mo PL p t (2+j+1)=(decide (j+1<PL.length)&&decide ((gt PL (j+1)).1=p/\(gt PL (j+1)).2<=t)):=by rw [show 2+j+1=j+1+2 by omega];rfl
 have e:Mo PL p t (2+j)=(decide (j<PL.length)&&decide ((gt PL j).1=p/\(gt PL j).2<=t)):=by rw [show 2+j=j+2 by omega];rfl
 change Mo PL p t (2+j+1)=true at b
 show Mo PL p t (2+j)=true
 rw [d] at b
 rw [e]
 simp only [Ob,N3] at b⊢
 have a:=(N5.mp h.lt) j (j+1) (by omega) h1 (by omega)
 rw [<-OI (by omega),<-OI h1] at a
 unfold Vk at a
 omega
theorem Ngc {p t:Int} (hp:p≠to):∀{s:List Src} {B:List Pr},(∀x∈s,0<=x.gr)->(∀x∈s,x.rd<=dl->x.pl≠to->(x.pl,x.rd)∈PL)->WX (Sg PL to dl s) B->- net (Mo PL p t) B<=QO p t (QY s)
 | [],B,_,_,h=>by
   cases B with
   | nil=>exact Oc _
   | cons q B=>cases h
 | x::s,B,hs,hm,h=>by
   have j:=hs x Nn
   have b:=fun y d=>hs y (Ni x d)
   have a:=fun y d=>hm y (Ni x d)
   have e:QO p t (QY (x::s))=(if x.pl=p/\x.rd<=t then x.gr else 0)+QO p t (QY s):=rfl
   rw [e]
   unfold Sg at h
   by_cases hr:x.rd<=dl
   ·rw [Nh hr] at h
    cases B with
    | nil=>cases h
    | cons q B=>
      obtain ⟨⟨h1,h2,i,f⟩,g⟩:=h
      have ih:=Ngc (t:=t) hp (s:=s) (B:=B) b a g
      have e1:Mo PL p t q.tail=false:=by rw [h2];rfl
      have e2:Mo PL p t q.head=decide (x.pl=p/\x.rd<=t):=by
       rw [h1];exact Mm hp fun c=>hm x Nn hr c
      rw [net,e1,e2]
      change q.flow<=x.gr at f
      by_cases hc:x.pl=p/\x.rd<=t
      ·rw [Nh hc,No hc];simp;omega
      ·rw [Nf hc,Nw hc];simp;omega
   ·rw [Nf hr] at h
    have ih:=Ngc (t:=t) hp (s:=s) (B:=B) b a h
    split<;>omega
theorem Nm4 {p t:Int} {a:List (Leg×Int)} (hp:p≠to) (hl:∀c∈a,Vm a (SG c)=some c.1):∀{C:List (Leg×Int)} {X:List Pr},(∀c∈C,c∈a)->(∀c∈C,(c.1.frm≠to/\(c.1.frm,c.2-c.1.cut)∈PL)/\(c.1.dst≠to->(c.1.dst,c.2+c.1.mins)∈PL))->WX (Tu PL to C) X->QO p t ((RF C X).flatMap (Xh a))=- net (Mo PL p t) X
 | [],X,_,_,h=>by
   cases X with
   | nil=>rfl
   | cons q X=>cases h
 | c::C,X,h0,hm,h=>by
   cases X with
   | nil=>cases h
   | cons q X=>
     obtain ⟨⟨h1,h2,j,k⟩,e⟩:=h
     have ih:=Nm4 (t:=t) hp hl (C:=C) (X:=X) (fun y b=>h0 y (Ni _ b)) (fun y b=>hm y (Ni _ b)) e
     obtain ⟨⟨l,g⟩,i⟩:=hm c Nn
     have f:Ue a ⟨c.1.id,c.2,c.2+c.1.mins,q.flow⟩=c.1:=by
      unfold Ue
      have:=hl c (h0 c Nn)
      unfold SG at this
      show (Vm a (c.1.id,c.2,c.2+c.1.mins)).getD default=_
      rw [this];rfl
     have e1:Mo PL p t q.tail=decide (c.1.frm=p/\c.2-c.1.cut<=t):=by rw [h2];exact Mm hp fun _=>g
     have e2:Mo PL p t q.head=decide (c.1.dst=p/\c.2+c.1.mins<=t):=by rw [h1];exact Mm hp i
     rw [RF,Oy,Uk,ih,net,e1,e2]
     by_cases d:0<q.flow
     ·rw [Nh d,N2,Qs,Na]
      unfold Xh
      rw [f]
      simp only [QO]
      by_cases c1:c.1.frm=p/\c.2-c.1.cut<=t<;>by_cases c2:c.1.dst=p/\c.2+c.1.mins<=t<;>simp [c1,c2]<;>omega
     ·rw [Nf d]
      have e0:q.flow=0:=by omega
      rw [e0]
      simp [QO]
theorem Nrw {A:List Pr} (a:WX (PH PL 2) A):exc 1 A=0:=by
 have key:∀l:List Pr,(∀q∈l,q.head≠1/\q.tail≠1)->exc 1 l=0:=fun l=>by
  induction l with
  | nil=>intro _;rfl
  | cons q l ih=>
    intro h
    have:=h q Nn
    rw [exc,Nf this.1,Nf this.2,ih fun x c=>h x (Ni _ c)];rfl
 refine key A fun q b=>?_
 obtain ⟨p,hp,e1,e2,_⟩:=a.mem q b
 obtain ⟨j,_,_,rfl⟩:=Us.1 hp
 rw [e1,e2]
 exact ⟨by show 2+j+1≠1;omega,by show 2+j≠1;omega⟩
theorem Ngd:∀{s:List Src} {B:List Pr},(∀x∈s,0<=x.gr)->WX (Sg PL to dl s) B->exc 1 B<=Tp to dl s
 | [],B,_,h=>by
   cases B with
   | nil=>exact Oc _
   | cons q B=>cases h
 | x::s,B,hs,h=>by
   have f:=hs x Nn
   have a:=fun y d=>hs y (Ni x d)
   unfold Sg at h
   rw [Tp]
   by_cases hr:x.rd<=dl
   ·rw [Nh hr] at h
    cases B with
    | nil=>cases h
    | cons q B=>
      obtain ⟨⟨h1,h2,e,b⟩,c⟩:=h
      have ih:=Ngd (s:=s) (B:=B) a c
      have e1:q.tail≠1:=by rw [h2];show 0≠1;omega
      change q.flow<=x.gr at b
      change q.head=PV PL to x.pl x.rd at h1
      rw [exc,Nf e1]
      by_cases hc:x.pl=to
      ·rw [Nh (show x.pl=to/\x.rd<=dl from ⟨hc,hr⟩)]
       split<;>omega
      ·have:q.head≠1:=by rw [h1];unfold PV;rw [Nf hc];omega
       rw [Nf this,Nf (show ¬(x.pl=to/\x.rd<=dl) from fun h=>hc h.1)];omega
   ·rw [Nf hr] at h
    have ih:=Ngd (s:=s) (B:=B) a h
    rw [Nf fun h=>hr h.2];omega
theorem Nm5 {a:List (Leg×Int)} (hl:∀c∈a,Vm a (SG c)=some c.1):∀{C:List (Leg×Int)} {X:List Pr},(∀c∈C,c∈a)->(∀c∈C,c.1.frm≠to)->WX (Tu PL to C) X->exc 1 X=SA a to (RF C X)
 | [],X,_,_,h=>by
   cases X with
   | nil=>rfl
   | cons q X=>cases h
 | c::C,X,h0,hm,h=>by
   cases X with
   | nil=>cases h
   | cons q X=>
     obtain ⟨⟨h1,h2,g,i⟩,e⟩:=h
     have ih:=Nm5 hl (C:=C) (X:=X) (fun y b=>h0 y (Ni _ b)) (fun y b=>hm y (Ni _ b)) e
     have f:Ue a ⟨c.1.id,c.2,c.2+c.1.mins,q.flow⟩=c.1:=by
      unfold Ue
      have:=hl c (h0 c Nn)
      unfold SG at this
      show (Vm a (c.1.id,c.2,c.2+c.1.mins)).getD default=_
      rw [this];rfl
     have e1:q.tail≠1:=by
      rw [h2]
      show PV PL to c.1.frm _≠1
      unfold PV;rw [Nf (hm c Nn)];omega
     have e2:q.head=1↔c.1.dst=to:=by
      rw [h1]
      show PV PL to c.1.dst _=1↔_
      unfold PV
      by_cases hd:c.1.dst=to
      ·simp [hd]
      ·rw [Nf hd];simp [hd]
     rw [exc,Nf e1,ih,RF,Ndo]
     by_cases d:0<q.flow
     ·rw [Nh d,SA,SA,f]
      by_cases hd:c.1.dst=to
      ·rw [Nh (e2.2 hd),Nh hd];dsimp only;omega
      ·rw [Nf fun h=>hd (e2.1 h),Nf hd];omega
     ·rw [Nf d,SA]
      split<;>omega
end
end Go.Flow


