/-
  Joined texts, 3 of 10. A part of the claim that the last text states.
-/
import Derived.Sort.AssemblyPlain
import Derived.Test.YtohnaffmcjbpoaaGreatPS2
set_option linter.unusedVariables false
set_option linter.unusedSimpArgs false
set_option linter.defProp false
set_option linter.unusedSectionVars false
set_option maxRecDepth 100000
set_option maxHeartbeats 4000000
namespace Go.AM
open Go.RowKit
section
variable {P:Program} {E:Env} {W:Nat->Prop} {lim:Nat} {σ:PT} {H H':NB} {w:World} {ds:List Deferred} {ro:Option Nat}
theorem Nf5 {C:TA} (b:CallOkS (Prg.mk P (Env.pure E)) C) {pf:FuncId->Bool} {id:Nat} {ops:Array Oper} {l:List AIns} (hl:ops.toList.mapM (XJ P pf ops)=some l) {N:Nat} {fr:Nat->Value} {a:Act}
  (d:State (Prg.mk P (Env.pure E)) ds W lim σ N fr H a w) {LL} (f:X6 C N lim l fr H=some LL):(Code.region id ops false).wpIn (WF ro) 0 P (fun e a' w'=>∃r∈LL,Nzo (Prg.mk P (Env.pure E)) ds W lim σ N r.1 H r.2 w e a' w') a w:=by
 refine wpIn_region ?_
 rw [List.range_eq_range']
 exact YL b W lim σ H w hl ops.size 0 fr H a w σ LL (fun r hr a m k q1 q2 q3 g h i=>⟨r,hr,rfl,k,q1,q2,q3,g,h,i⟩) (by simp) d (Stp.refl _ _) (PT.le_refl _) (Grow.refl _ _) (fun j c=>absurd rfl c) (Ng _) (by simpa using f)
theorem Todo.start {ops:Array Oper} {ord:List Nat} (a:∀i,i∈ord↔i<ops.size):Todo ops ord (Array.replicate ops.size false) ord:=by
 refine ⟨fun i=>?_,List.Sublist.refl _,by simp,fun i o ho hl=>?_⟩
 ·rw [a]
  constructor
  ·intro hi
   refine ⟨hi, ?_⟩
   rw [N7,Ol (by simpa using hi)]
   simp
  ·exact fun h=>h.1
 ·exfalso
  rw [N7,Array.getElem?_replicate] at hl
  split at hl<;>simp at hl
theorem Nf6 {C:TZ} (m:CallOk (Prg.mk P (Env.pure E)) C) {pf:FuncId->Bool} (q:P.follows .mixedOrders=true) {id:Nat} {ops:Array Oper} {n:Nat} {L:List AIns} (hl:Vw P pf ops=some (.drawn n L)) {N:Nat} {fr fr':Nat->Value} {a:Act}
  (f:State (Prg.mk P (Env.pure E)) ds W lim σ N fr H a w) (s:Yg C N lim (some H.length) L fr (H++List.replicate n .dead)=some (fr',H')):(Code.region id ops true).wpIn (WF ro) 0 P (fun e a' w'=>e=.normal/\∃l,State (Prg.mk P (Env.pure E)) ds W lim l N fr' H' a' w'/\Stp W w w'/\PT.le σ l/\(∀j,l j≠σ j->H.length<=j)) a w:=by
 refine wpIn_region_any q ?_
 obtain ⟨ord,L0,pl,rfl⟩:=Nl2 hl
 have d:ord.length=ops.size:=by
  have h1:ord.Perm (List.range ops.size):=(List.perm_ext_iff_of_nodup pl.nodup List.nodup_range).2 fun i=>by rw [pl.mem,List.mem_range]
  rw [h1.length_eq,List.length_range]
 have k:State (Prg.mk P (Env.pure E)) ds W lim σ N fr (H++List.replicate n .dead) a w.drew:=⟨f.fr,(f.inv.pad n).drew,by have:=f.lim;simp;omega⟩
 refine Nfe m pl fr' H' W lim f.lim σ (H++List.replicate n .dead) w.drew (fun a y u q1 q2 q3 v t x=>⟨rfl,u,q1,Stp.drew.trans q2,q3,t⟩) ops.size _ ord fr _ a w.drew σ d (Todo.start pl.mem) k (Stp.refl _ _) (PT.le_refl _) (Grow.refl _ _)
  (fun j p=>absurd rfl p) (Ng _) ⟨by simp,fun r hr b c o=>?_,fun r hr=>f.inv.dom _ (by omega),fun r hr=>?_⟩ ?_
 ·rw [Og (by omega),P0] at c
  split at c
  ·cases c;simp [alive] at o
  ·cases c
 ·obtain ⟨b,c,h⟩:=List.mem_filterMap.1 hr
  have g:b<L0.length:=by rw [pl.len];exact (pl.mem b).1 c
  exact pl.dest b _ r (by rw [Nc,Np g];rfl) (M9 h)
 ·exact s
def Fin (P:Program) (md:Md) (b:Frame) (cs:List Frame) (m:Machine) (v':Value) (w':World):Prop:=
 match md with
 | .r _=>∃c cs',cs=c::cs'/\m=lone (c.finish v') cs' w'
 | _=>∃fr,m=lone fr cs w'/\fr.fn=b.fn/\fr.leaving P w' (.returned v')
def Xy (P:Program) (pf:FuncId->Bool) (W:Nat->Prop) (lim:Nat) (σ:PT) (md:Md) (v:Value) (H H':NB) (w:World) (b:Frame) (K:List Item) (cs:List Frame) (a:Act):Prop:=
 ∃m v' w' c,Steps P (lone (b.atR a K) cs w) m/\Fin P md b cs m v' w'/\VRel c v v'/\Inv (Prg.mk P pf) W lim c H' w'/\Stp W w w'/\PT.le σ c/\∀j,c j≠σ j->H.length<=j
theorem Xy.step {pf:FuncId->Bool} {md:Md} {v:Value} {b:Frame} {K c:List Item} {cs:List Frame} {a:Act} (h:step P (lone (b.atR a K) cs w)=.next (lone (b.atR a c) cs w)) (k:Xy P pf W lim σ md v H H' w b c cs a):Xy P pf W lim σ md v H H' w b K cs a:=by
 obtain ⟨a',w',d,fr',h1,h2⟩:=k
 exact ⟨a',w',d,fr',Steps.head h h1,h2⟩
theorem Xy.steps {pf:FuncId->Bool} {md:Md} {v:Value} {b:Frame} {K i:List Item} {cs:List Frame} {a l:Act} {g:World} {c:PT} {H1:NB} (h:Steps P (lone (b.atR a K) cs w) (lone (b.atR l i) cs g)) (f:Stp W w g) (d:PT.le σ c) (hd:∀j,c j≠σ j->H.length<=j) (u:H.length<=H1.length)
  (k:Xy P pf W lim c md v H1 H' g b i cs l):Xy P pf W lim σ md v H H' w b K cs a:=by
 obtain ⟨m,v',w',t,h1,h2,n,o,p,q,r⟩:=k
 refine ⟨m,v',w',t,Steps.trans h h1,h2,n,o,f.trans p,PT.le_trans d q,fun j s=>?_⟩
 apply Ns
 intro hc
 have e1:c j=σ j:=Ns fun e=>hc (hd j e)
 have:=r j (fun e=>s (e.trans e1))
 omega
def QK (P:Program) (pf:FuncId->Bool) (W:Nat->Prop) (lim:Nat) (σ:PT) (md:Md) (R:List (Value×NB)) (H:NB) (w:World) (b:Frame) (K:List Item) (cs:List Frame) (a:Act):Prop:=
 ∃r∈R,Xy P pf W lim σ md r.1 H r.2 w b K cs a
theorem QK.step {pf:FuncId->Bool} {md:Md} {R:List (Value×NB)} {b:Frame} {K c:List Item} {cs:List Frame} {a:Act} (h:step P (lone (b.atR a K) cs w)=.next (lone (b.atR a c) cs w)) (k:QK P pf W lim σ md R H w b c cs a):QK P pf W lim σ md R H w b K cs a:=by
 obtain ⟨r,hr,k⟩:=k
 exact ⟨r,hr,k.step h⟩
theorem QK.steps {pf:FuncId->Bool} {md:Md} {R i:List (Value×NB)} {b:Frame} {K g:List Item} {cs:List Frame} {a l:Act} {e:World} {f:PT} {H1:NB} (h:Steps P (lone (b.atR a K) cs w) (lone (b.atR l g) cs e)) (d:Stp W w e) (c:PT.le σ f) (hd:∀j,f j≠σ j->H.length<=j) (m:H.length<=H1.length)
  (k:QK P pf W lim f md i H1 e b g cs l) (n:∀x∈i,x∈R):QK P pf W lim σ md R H w b K cs a:=by
 obtain ⟨r,hr,k⟩:=k
 exact ⟨r,n r hr,k.steps h d c hd m⟩
def Cx (P:Program) (σ:PT) (md:Md) (af:AFunc) (b:Frame) (cs:List Frame):Prop:=
 b.kind=.normal/\match md with
 | .r i=>∃L c cs',b.roundOf=some L.blk/\σ i=some L/\cs=c::cs'
 | _=>b.roundOf=none/\∃fn,P.funcs[b.fn]? = some fn/\fn.results.toList.mapM (Zy P)=some af.results
theorem Cx.mono {σ τ:PT} (a:PT.le σ τ) {md:Md} {af:AFunc} {b:Frame} {cs:List Frame} (h:Cx P σ md af b cs):Cx P τ md af b cs:=by
 refine ⟨h.1, ?_⟩
 have h2:=h.2
 cases md with
 | r i=>obtain ⟨L,c,cs',g1,d,e⟩:=h2;exact ⟨L,c,cs',g1,a _ _ d,e⟩
 | _=>exact h2
theorem Inv.enterLoop (h:Inv (Prg.mk P (Env.pure E)) W lim σ H w) {x:LoopB} {lp:Loop} (v:LoopRel (Prg.mk P (Env.pure E)) σ x lp) :
  ∃g,Inv (Prg.mk P (Env.pure E)) W lim g (H++[.dfr,.loop x]) ((w.alloc (.deferred (some []))).alloc (.loop lp))/\PT.le σ g/\g H.length=some ⟨w.heap.size,0,0⟩/\g (H.length+1)=some ⟨w.heap.size+1,0,0⟩/\∀j,g j≠σ j->H.length<=j:=by
 have c:∀{H:NB} {w:World} {σ:PT} (h:Inv (Prg.mk P (Env.pure E)) W lim σ H w) {b:Blk} {o:Obj},owned b=true->UW (Prg.mk P (Env.pure E)) (σ.put H.length ⟨w.heap.size,0,0⟩) (w.alloc o) ⟨w.heap.size,0,0⟩ b->Inv (Prg.mk P (Env.pure E)) W lim (σ.put H.length ⟨w.heap.size,0,0⟩) (H++[b]) (w.alloc o):=by
  intro H w σ h b o ho n
  have hw:Inv (Prg.mk P (Env.pure E)) W lim σ H (w.alloc o):=h.world (by simp) fun b n=>by rw [Uv,Qc];rw [Nf (by omega)]
  obtain ⟨g1,r,z,s,A,B,C⟩:=TR (dest:=none) (b:=b) (H:=H) (show place none b H=(H.length,H++[b]) from rfl) (fun d e=>by cases e)
  refine hw.adopt g1 r s (h.dom _ (Ng _)) n ho (h.fresh _ (Ng _)) fun j bj Lj u k m i e=>?_
  obtain ⟨y,h1,h2⟩:=h.blk j bj k m
  rw [i] at h1;cases h1
  have:=h2.lt m
  simp at e
  omega
 have p:=c h (b:=.dfr) (o:=.deferred (some [])) rfl (by show (w.alloc _).heap[_]? = _;simp [Uv])
 have f:PT.le σ (σ.put H.length ⟨w.heap.size,0,0⟩):=PT.le_put (h.dom _ (Ng _))
 have l:=p.dom (H.length+1) (by simp)
 have a:=PT.le_put (L:=⟨w.heap.size+1,0,0⟩) l
 have q:=c p (b:=.loop x) (o:=.loop lp) rfl (by
  refine ⟨lp,World.alloc_heap_new _ _, ?_⟩
  simp only [Nb,Nj,Nl,World.size_alloc] at a⊢
  exact (v.mono f).mono a)
 simp only [Nb,Nj,Nl,World.size_alloc,Nr,Oc,Ob] at q
 refine ⟨_,q,PT.le_trans f a, ?_,PT.put_same,fun j t=>?_⟩
 ·simp [PT.put]
 ·apply Ns
  intro hc
  refine t ?_
  simp only [PT.put]
  rw [Nf (by omega),Nf (by omega)]
theorem Ms (hE:EnvOk P E) (n:Nat) (hC:∀m,m<n->CallOkS (Prg.mk P (Env.pure E)) (QR E m)):∀(m:Nat),m<=n->∀{md:Md} {ms:List Nat} {ds:List Deferred} {af:AFunc} {k:List AItem} {fr:Nat->Value} {σ:PT} {H:NB} {w:World} {R:List (Value×NB)} {K:List Item} {a:Act} (b:Frame) (cs:List Frame),
   OX E m af lim k fr H=some R->KRel P E.pure md ms k K->(md=.n->ms=[])->Ndx lim σ ms.reverse ds->Cx P σ md af b cs->(∀i,md=.r i->lim<=i)->State (Prg.mk P (Env.pure E)) ds W lim σ af.ntmps fr H a w->
   QK P E.pure W lim σ md R H w b K cs a:=by
 intro m
 induction m using Nat.strongRecOn with
 | ind m ih=>
 intro hm md ms ds af k fr σ H w R K a b cs hx hK hms hds hcx hri hs
 cases m with
 | zero=>simp [OX] at hx
 | succ m=>
 have ih':∀{k:List AItem} {K:List Item},OX E m af lim k fr H=some R->KRel P E.pure md ms k K->QK P E.pure W lim σ md R H w b K cs a:=fun hx hK=>ih m (by omega) (by omega) b cs hx hK hms hds hcx hri hs
 have finN:md=.n->∀{todo:List Item},step P (lone (b.atR a K) cs w)=.next (lone { b.atR a todo with mode:=.returning } cs w)->one ((result fr H af.results).map (·,H))=some R->QK P E.pure W lim σ md R H w b K cs a:=fun hmd todo hst h=>by
  subst hmd
  rw [hms rfl] at hds
  cases hds
  obtain ⟨hk,hro,fn,hfn,hrs⟩:=hcx
  obtain ⟨x,h',rfl⟩:=Ve h
  simp only [Nd] at h'
  obtain ⟨v,h1,rfl⟩:=h'
  obtain ⟨v',h7,h8⟩:=YJ hs hrs h1
  exact ⟨_,Ni.2 rfl,_,v',w,σ,.one hst,⟨_,rfl,rfl,rfl,hs.fr.defers,hk,fn,hfn,h7⟩,h8,hs.inv,Stp.refl _ _,PT.le_refl _,fun j hj=>absurd rfl hj⟩
 have Vs:md=.m->marks k=marks k->∀{todo:List Item} {ks:List AItem},marks ks=ms.reverse->step P (lone (b.atR a K) cs w)=.next (lone { b.atR a todo with mode:=.returning } cs w)->
   (match shut lim (marks ks) H with | some H'=>one ((result fr H' af.results).map (·,H')) | none=>none)=some R->QK P E.pure W lim σ md R H w b K cs a:=fun hmd _ todo ks hmk hst h=>by
  subst hmd
  obtain ⟨hk,hro,fn,hfn,hrs⟩:=hcx
  split at h
  case h_2=>cases h
  rename_i H1 hsh
  rw [hmk] at hsh
  obtain ⟨w1,k1,k2,k3,k4⟩:=Nbz (b:=b) (a:=a) (todo:=todo) (cs:=cs) _ ds hds hs.inv hsh
  obtain ⟨x,h',rfl⟩:=Ve h
  simp only [Nd] at h'
  obtain ⟨v,h1,rfl⟩:=h'
  have hs1:State (Prg.mk P (Env.pure E)) ds W lim σ af.ntmps fr H1 a w1:=⟨hs.fr,k2,by rw [k4];exact hs.lim⟩
  obtain ⟨v',h7,h8⟩:=YJ hs1 hrs h1
  have ea:{ a with defers:=ds }=a:=by rw [<-hs.fr.defers]
  rw [ea] at k1
  exact ⟨_,Ni.2 rfl,_,v',w1,σ,Steps.head hst k1,⟨_,rfl,rfl,rfl,rfl,hk,fn,hfn,h7⟩,h8,k2,k3,PT.le_refl _,fun j hj=>absurd rfl hj⟩
 have finR:∀{i:Nat} {j:Option ACode} {J:Option Code},md=.r i->(match j with | none=>J=none | some c=>∃C,J=some C/\Uh P E.pure C=some c)->
   (∀{L c cs' v w'},b.roundOf=some L->b.kind=.normal->cs=c::cs'->(Instr.endRound L J).run P w=.ok v w'->step P (lone (b.atR a K) (c::cs') w)=.next (lone (c.finish v) cs' w'))->
   one (endRound i j H)=some R->QK P E.pure W lim σ md R H w b K cs a:=fun {i j J} hmd hj hst h=>by
  subst hmd
  obtain ⟨hk,L,c,cs',hro,hL,rfl⟩:=hcx
  obtain ⟨⟨v,H'⟩,h',rfl⟩:=Ve h
  obtain ⟨w1,h1,h2,h3,h4⟩:=Nct hs.inv hL (hri i rfl) hj h'
  exact ⟨_,Ni.2 rfl,_,v,w1,σ,.one (hst hro hk rfl h1),⟨c,cs',rfl,rfl⟩,h2,h3,h4,PT.le_refl _,fun j hj=>absurd rfl hj⟩
 rw [OX.eq_def] at hx
 simp only at hx
 cases hK with
 | nilN=>exact finN rfl (stepR_end hcx.2.1) hx
 | nilM=>exact Vs rfl rfl (M7 ms) (stepR_end hcx.2.1) hx
 | @nilR i=>
   simp only at hx
   split at hx
   case isFalse=>cases hx
   exact finR rfl (J:=none) rfl (fun {L c cs' v w'} h1 h2 h3 h4=>stepR_round_end h1 h2 h4) hx
 | inBlock t=>exact QK.step stepR_inBlock (ih' hx t)
 | inLoop h t=>exact QK.step stepR_inLoop (ih' hx (.code h (.inLoop h t)))
 | @begin i ms k K t=>
   simp only at hx
   split at hx
   case h_2=>cases hx
   rename_i x hb
   split at hx
   case isFalse=>cases hx
   rename_i hc
   obtain ⟨hk,L,c,cs',hro,hL,rfl⟩:=hcx
   obtain ⟨lp,h1,h2⟩:=hs.inv.loop hb hL
   have hlt:L.blk<w.heap.size:=(Array.getElem?_eq_some_iff.1 h1).1
   obtain ⟨i1,i2⟩:=hs.inv.putLoop (o:=.loop { lp with state:=.busy }) (b':=.loop { x with st:=1 }) hb rfl hL hc.2
    ⟨_,World.putObj_heap_same hlt,rfl,h2.pend,h2.size,h2.val,h2.params,h2.assign,h2.body⟩ (fun _=>rfl)
   have hst:lp.state=.ready:=by rw [h2.st,hc.1];rfl
   refine QK.steps (.one (stepR_beginRound hro (run_beginRound h1 hst))) i2 (PT.le_refl _) (fun j hj=>absurd rfl hj) (by simp) (ih m (by omega) (by omega) b _ hx t hms hds ⟨hk,L,c,cs',hro,hL,rfl⟩ hri ⟨hs.fr,i1,by have:=hs.lim;simpa using this⟩) (fun x hx=>hx)
 | @code md ms c C k K h t=>
   cases Non h with
   | skip=>exact QK.step stepR_skip (ih' hx t)
   | @plain _ id ops l hl=>
     simp only at hx
     obtain ⟨LL,h1,h2⟩:=Ncg E l m af lim k fr H _ hx
     have hCm:=hC (m-1) (by omega)
     obtain ⟨e,a1,w1,hq,harr⟩:=Nf5 (ro:=b.roundOf) hCm (id:=id) hl hs h1 b K cs rfl trivial (room_wide _)
     obtain ⟨r,hr,rfl,σ1,q1,q2,q3,q4,q5,q6⟩:=hq
     obtain ⟨m1,R',g1,g2,g3⟩:=h2 r hr
     exact QK.steps (StepsIn.steps harr) q2 q3 q5 q6 (ih m1 (by omega) (by omega) b cs g2 t hms (hds.mono q3) (hcx.mono q3) hri q1) g3
   | @drawn _ id ops nn L hdr=>
     simp only at hx
     obtain ⟨m1,fr1,H1,h1,h2,h3⟩:=Ne4 E L m af lim H.length k fr _ _ hx
     have hCm:=hC (m-1) (by omega)
     obtain ⟨e,a1,w1,hq,harr⟩:=Nf6 (ro:=b.roundOf) hCm.det hE.mixed (id:=id) hdr hs h2 b K cs rfl trivial (room_wide _)
     obtain ⟨rfl,σ1,q1,q2,q3,q5⟩:=hq
     have hlen:H.length<=H1.length:=by
      have key:∀(l:List AIns) (fr fr1:Nat->Value) (H0 H1:NB),lim<=H0.length->Yg (det (QR E (m-1))) af.ntmps lim (some H.length) l fr H0=some (fr1,H1)->H0.length<=H1.length:=by
       intro l
       induction l with
       | nil=>intro fr fr1 H0 H1 _ hx;simp [Yg] at hx;rw [hx.2];exact Ng _
       | cons i l ih=>
         intro fr fr1 H0 H1 hl hx
         obtain ⟨f2,H2,g1,g2⟩:=WS hx
         obtain ⟨g3,_⟩:=Nco hCm.grow.det g1 (fun b e=>by cases e;exact hs.lim) hl
         have:=ih _ _ _ _ (by omega) g2
         omega
      have:=key L fr fr1 _ H1 (by have:=hs.lim;simp;omega) h2
      simp at this
      omega
     exact QK.steps (StepsIn.steps harr) q2 q3 q5 hlen (ih m1 (by omega) (by omega) b cs h3 t hms (hds.mono q3) (hcx.mono q3) hri q1) (fun x hx=>hx)
   | seq hx' hy'=>exact QK.step stepR_seq (ih' hx (.code hx' (.code hy' t)))
   | @cond _ o x y x' y' hok hx' hy'=>
     have hev:=hs.fr.ev hok
     simp only at hx
     cases he:ev fr o<;>rw [he] at hx hev<;>(try (cases hx;done))
     rename_i t'
     have hb:=hev.bool_left
     cases t' with
     | true=>exact QK.step (stepR_cond hb) (ih' hx (.code hx' t))
     | false=>exact QK.step (stepR_cond hb) (ih' hx (.code hy' t))
   | block hx'=>exact QK.step stepR_block (ih' hx (.code hx' (.inBlock t)))
   | loop hx'=>exact QK.step stepR_loop (ih' hx (.code hx' (.inLoop hx' t)))
   | exit hmd=>
     simp only at hx
     split at hx
     case h_2=>cases hx
     rename_i k' hk'
     obtain ⟨K',h1,h2⟩:=t.exit hk'
     exact QK.step (stepR_exit h1) (ih' hx h2)
   | @exitR i id=>
     simp only at hx
     split at hx
     ·rename_i k' hk'
      obtain ⟨K',h1,h2⟩:=t.exit hk'
      exact QK.step (stepR_exit h1) (ih' hx h2)
     ·rename_i hk'
      rw [t.roundOf] at hx
      simp only at hx
      split at hx
      case isFalse=>cases hx
      exact finR rfl (j:=some (.exit id)) (J:=some (.exit id)) ⟨_,rfl,rfl⟩ (fun {L c cs' v w'} h1 h2 h3 h4=>stepR_round_exit h1 h2 (t.noExit hk') h4) hx
   | ret=>exact finN rfl (stepR_ret hcx.2.1) hx
   | retM=>exact Vs rfl rfl t.marks (stepR_ret hcx.2.1) hx
   | retR=>
     simp only at hx
     rw [t.roundOf] at hx
     simp only at hx
     split at hx
     case isFalse=>cases hx
     exact finR rfl (j:=some .retM) (J:=some .ret) ⟨_,rfl,rfl⟩ (fun {L c cs' v w'} h1 h2 h3 h4=>stepR_round_ret h1 h2 h4) hx
   | @rangeF f ps x y x' y' hok hx' hy'=>
     have hCm:=hC m (by omega)
     have hev:=hs.fr.ev hok
     simp only at hx
     split at hx
     case h_2=>cases hx
     rename_i g as hcl
     unfold NE at hcl
     split at hcl
     case h_2=>simp at hcl
     case h_3=>cases hcl
     rename_i g' fi ca hf
     simp only [Option.some.injEq,Prod.mk.injEq,Sum.inl.injEq] at hcl
     obtain ⟨rfl,rfl⟩:=hcl
     rw [hf] at hev
     obtain ⟨fi',ca',hf',hfi,hca⟩:=hev.func_left
     split at hx
     case h_2=>cases hx
     rename_i L2 hcall
     obtain ⟨hk,hro,fn0,hfn0,hrs0⟩:=hcx
     have hxl:LoopRel (Prg.mk P (Env.pure E)) σ ⟨0,none,fr,af.ntmps,ps.toList,x',y'⟩ { state:=.ready,pending:=none,fn:=b.fn,tmps:=a.tmps,params:=ps,assign:=x,body:=y,defers:=w.heap.size }:=
      ⟨rfl,rfl,hs.fr.size,hs.fr.val,rfl,hx',hy'⟩
     obtain ⟨σ1,i1,hle1,hl1,hl2,hch1⟩:=hs.inv.enterLoop hxl
     obtain ⟨fn,g1,g2,g3⟩:=hCm.fn _ _ _ _ _ _ hcall
     have hargs:OV σ1 (fi.toList++[.func (.yield (H.length+1)) #[] #[]]++ca.toList) (fi'.toList++[.func (.yield (w.heap.size+1)) #[] #[]]++ca'.toList):=
      ((hfi.mono hle1).append (OV.cons (.yld hl2) OV.nil)).append (hca.mono hle1)
     have hcalls:=hCm.calls _ _ _ _ _ _ hcall (by have:=hs.lim;simp;omega) W σ1 _ _ i1 hargs
     have hkc:∀v,a.eval (.const v)=v:=fun _=>rfl
     have hbn:fn.body≠none:=fun h=>by rw [h] at g2;cases g2
     have h3':¬(fn.name= "runtime.NumGoroutine"):=by simpa using g3
     have ea:(fi'.toList++[Value.func (.yield (w.heap.size+1)) #[] #[]]++ca'.toList).toArray=fi'++#[Value.func (.yield (w.heap.size+1)) #[] #[]]++ca':=by apply Array.ext';simp
     rw [ea] at hcalls
     have henter:=stepR_rangeFunc (P:=P) (b:=b) (a:=a) (k:=K) (cs:=cs) (w:=w) (g:=f) (ps:=ps) (assign:=x) (body:=y) (f:=g') (args:=fi'++#[Value.func (.yield (w.heap.size+1)) #[] #[]]++ca')
      (show (Instr.enterLoop b.fn a.tmps ps x y b.roundOf).run P w=.ok (w.heap.size+1,[{ target:=.collected w.heap.size,args:=#[] }])
       ((w.alloc (.deferred (some []))).alloc (.loop { state:=.ready,pending:=none,fn:=b.fn,tmps:=a.tmps,params:=ps,assign:=x,body:=y,defers:=w.heap.size })) by rw [hro];exact run_enterLoop_outer _ _ _ _ _)
      (show (resolve a.eval (rangeCall f (w.heap.size+1)) 0).run P _=.ok { target:=.fn (.func g') ca',args:=fi'++#[Value.func (.yield (w.heap.size+1)) #[] #[]] } _ by
       simp [resolve,Deferred.ofValue,hf',hkc];rfl)
      (show (invoke (.fn (.func g') ca') (fi'++#[Value.func (.yield (w.heap.size+1)) #[] #[]])).run P _=.ok (.enter g' _) _ by
       simp [invoke,callFunc,g1,h3',hbn];rfl)
     obtain ⟨e,w3,fr3,⟨⟨v2,H2⟩,hr2,v3,σ3,rfl,q1,q2,q3,q4,q5⟩,hcome,hfr3,hlv⟩:=hcalls (b.atR { a with defers:=[{ target:=.collected w.heap.size,args:=#[] }]++a.defers } (.inRangeFunc (w.heap.size+1)::K)::cs)
     obtain ⟨R',hx,hsub⟩:=UR hx _ hr2
     simp only at hx q2
     split at hx
     case h_2=>cases hx
     rename_i xx hb
     split at hx
     ·cases hx
     rename_i hst
     have hL3:σ3 (H.length+1)=some ⟨w.heap.size+1,0,0⟩:=q4 _ _ hl2
     obtain ⟨lp,h1,h2⟩:=q2.loop hb hL3
     have hnb:lp.state≠.busy:=fun e=>by
      rw [h2.st] at e
      unfold N2z at e
      split at e<;>first | (cases e;done) | skip
      rename_i h;exact hst h
     have hlimx:lim<=H.length+1:=by have:=hs.lim;omega
     obtain ⟨i3,s3⟩:=q2.putLoop (o:=.loop { lp with state:=.exhausted }) (b':=.dead) hb rfl hL3 hlimx trivial (fun h=>by simp [alive] at h)
     have hall:Steps P (lone (b.atR a (.code (.rangeFunc f ps x y)::K)) cs w) (lone (b.atR { a with defers:=[{ target:=.collected w.heap.size,args:=#[] }]++a.defers } ((lp.pending.map Item.code).toList++K)) cs (w3.putObj (w.heap.size+1) (.loop { lp with state:=.exhausted }))):=by
      refine Steps.head henter (Steps.trans hcome (Steps.head (step_leave_returned hlv) ?_))
      rw [finish_atR_inRangeFunc]
      exact .one (stepR_endRangeFunc (run_endLoop h1 hnb))
     have hst1:Stp W w ((w.alloc (.deferred (some []))).alloc (.loop { state:=.ready,pending:=none,fn:=b.fn,tmps:=a.tmps,params:=ps,assign:=x,body:=y,defers:=w.heap.size })):=
      (Stp.alloc hs.inv.fresh _).trans (Stp.alloc (fun k hk=>hs.inv.fresh k (by simp at hk;omega)) _)
     have hlen2:H.length+2<=H2.length:=by
      have:=(hCm.grow _ _ _ _ _ _ hcall (by have:=hs.lim;simp;omega) _ hr2).1
      simpa using this
     have hle3:PT.le σ σ3:=PT.le_trans hle1 q4
     have hpend:=h2.pend
     refine QK.steps hall (hst1.trans (q3.trans s3)) hle3 (fun j hj=>?_) (by simp;omega) (ih m (by omega) (by omega) (ms:=ms++[H.length]) (ds:={ target:=.collected w.heap.size,args:=#[] }::ds) b cs hx ?_ (fun h=>by cases h) ?_ ⟨hk,hro,fn0,hfn0,hrs0⟩ (fun i h=>by cases h) ⟨?_,i3,by have:=hs.lim;simp;omega⟩) hsub
     ·apply Ns
      intro hc
      have e1:σ1 j=σ j:=Ns fun e=>hc (hch1 j e)
      have:=q5 j (fun e=>hj (e.trans e1))
      simp at this
      omega
     ·have tm:=t.addMark H.length
      cases hp:xx.pend with
      | none=>rw [hp] at hpend;simp only at hpend;rw [hpend];simpa using tm
      | some c=>
        rw [hp] at hpend
        obtain ⟨C,hC1,hC2⟩:=hpend
        rw [hC1]
        exact .code (md:=.m) hC2 tm
     ·rw [List.reverse_append]
      exact ⟨⟨w.heap.size,0,0⟩,ds,hs.lim,q4 _ _ hl1,rfl,hds.mono hle3⟩
     ·exact ⟨hs.fr.size,by simp [hs.fr.defers],fun t=>(hs.fr.val t).mono hle3⟩
theorem Nlx {as as':List Value} (h:OV σ as as') (fn:Func):FrRel [] σ fn.ntmps (NH as) { tmps:=as'.toArray++Array.replicate (fn.ntmps-as'.toArray.size) undef,defers:=[] }:=by
 refine ⟨by simp;omega,rfl,fun t=>?_⟩
 unfold NH
 rw [N7,Nc]
 by_cases b:t<as.length
 ·have a:t<as'.length:=by rw [<-h.1];exact b
  rw [Array.getElem?_append_left (by simpa using a),Np b]
  simp only [List.getElem?_toArray,Np a,Pq]
  exact h.2 t _ _ (Np b) (Np a)
 ·have a:as'.toArray.size<=t:=by simp [<-h.1];omega
  rw [N8 (by omega),Array.getElem?_append_right a,Array.getElem?_replicate]
  have c:VRel σ undef undef:=.atom rfl
  split<;>exact c
theorem Nbp {pf:FuncId->Bool} {g:FuncId} {af:AFunc} (ht:NW P pf g=some af):∃fn body md c rs,P.funcs[g]? = some fn/\fn.body=some body/\trX P pf md body=some c/\fn.results.toList.mapM (Zy P)=some rs/\(fn.name == "runtime.NumGoroutine")=false/\
  ((md=.n/\af={ ntmps:=fn.ntmps,results:=rs,body:=c })\/(md=.m/\af={ ntmps:=fn.ntmps,results:=rs,body:=.seq c .retM })):=by
 unfold NW at ht
 split at ht
 ·rename_i a ha
  cases ht
  unfold Nmr at ha
  obtain ⟨fn,hfn,ht⟩:=OD ha
  obtain ⟨body,hb,ht⟩:=OD ht
  obtain ⟨c,hc,ht⟩:=OD ht
  obtain ⟨rs,hrs,ht⟩:=OD ht
  split at ht
  ·cases ht
  ·rename_i hn
   cases ht
   exact ⟨fn,body,.n,c,rs,hfn,hb,hc,hrs,by simpa using hn,.inl ⟨rfl,rfl⟩⟩
 ·unfold Nms at ht
  obtain ⟨fn,hfn,ht⟩:=OD ht
  obtain ⟨body,hb,ht⟩:=OD ht
  obtain ⟨c,hc,ht⟩:=OD ht
  obtain ⟨rs,hrs,ht⟩:=OD ht
  split at ht
  ·cases ht
  ·rename_i hn
   cases ht
   exact ⟨fn,body,.m,c,rs,hfn,hb,hc,hrs,by simpa using hn,.inr ⟨rfl,rfl⟩⟩
theorem Nc5 (z:EnvOk P E) (n:Nat) (y:∀m,m<n->CallOkS (Prg.mk P (Env.pure E)) (QR E m)) {g:FuncId} {af:AFunc} (C:NW P E.pure g=some af) {as as':List Value} {R:List (Value×NB)} (l:OX E n af lim [.code af.body] (NH as) H=some R) (hl:lim<=H.length)
  (f:Inv (Prg.mk P (Env.pure E)) W lim σ H w) (A:OV σ as as'):Calls P g as'.toArray w fun e w'=>∃r∈R,VV (Prg.mk P (Env.pure E)) W lim σ H r.1 r.2 w e w':=by
 obtain ⟨fn,body,md,c,D,d,B,hc,j,hn,v⟩:=Nbp C
 intro cs
 let b:Frame:={ (default:Frame) with fn:=g,kind:=.normal,roundOf:=none }
 have a:Frame.enter P g as'.toArray .normal=b.atR { tmps:=as'.toArray++Array.replicate (fn.ntmps-as'.toArray.size) undef,defers:=[] } [.code body]:=by
  simp [Frame.enter,Frame.atR,d,B,b]
 have k:State (Prg.mk P (Env.pure E)) [] W lim σ fn.ntmps (NH as) H { tmps:=as'.toArray++Array.replicate (fn.ntmps-as'.toArray.size) undef,defers:=[] } w:=⟨Nlx A fn,f,hl⟩
 rcases v with ⟨rfl,rfl⟩ | ⟨rfl,rfl⟩
 ·obtain ⟨r,hr,m,v',w',x,h1,⟨fr,rfl,h2,o⟩,p,q,s,t,u⟩:=Ms (W:=W) z n y n (Ng _) (ms:=[]) b cs l (.code hc .nilN) (fun _=>rfl) rfl ⟨rfl,rfl,fn,d,j⟩ (fun i h=>by cases h) k
  rw [<-a] at h1
  exact ⟨.returned v',w',fr,⟨r,hr,v',x,rfl,p,q,s,t,u⟩,h1,h2,o⟩
 ·cases n with
  | zero=>simp [OX] at l
  | succ n=>
  rw [OX.eq_def] at l
  simp only at l
  obtain ⟨r,hr,m,v',w',x,h1,⟨fr,rfl,h2,o⟩,p,q,s,t,u⟩:=Ms (W:=W) z (n+1) y n (by omega) (ms:=[]) b cs l (.code hc .nilM) (fun _=>rfl) rfl ⟨rfl,rfl,fn,d,j⟩ (fun i h=>by cases h) k
  rw [<-a] at h1
  exact ⟨.returned v',w',fr,⟨r,hr,v',x,rfl,p,q,s,t,u⟩,h1,h2,o⟩
theorem YI:∀(ps:List Nat) (as as':List Value) (fr:Nat->Value) (a:Array Value) (N:Nat),as.length=ps.length->(ps.all (·<N))=true->N<=a.size->OV σ as as'->(∀t,VRel σ (fr t) (a.getD t undef))->
  N<=((ps.zip as').foldl (fun (tmps:Array Value) (x:Nat×Value)=>tmps.setIfInBounds x.1 x.2) a).size/\∀t,VRel σ (Td fr ps as t) (((ps.zip as').foldl (fun (tmps:Array Value) (x:Nat×Value)=>tmps.setIfInBounds x.1 x.2) a).getD t undef)
 | [],as,as',fr,a,N,h,_,hN,ha,hv=>by
   cases as with
   | nil=>exact ⟨by simpa using hN,by simpa [Td] using hv⟩
   | cons=>simp at h
 | p::ps,as,as',fr,a,N,h,hp,hN,ha,hv=>by
   cases as with
   | nil=>simp at h
   | cons x xs=>
     cases as' with
     | nil=>have:=ha.1;simp at this
     | cons y ys=>
       simp only [List.all_cons,N9,N3] at hp
       simp only [List.zip_cons_cons,Qe,Td]
       refine YI ps xs ys _ _ N (by simpa using h) hp.2 (by simpa using hN) ha.tail fun t=>?_
       rw [N7]
       by_cases e:t=p
       ·subst e
        rw [Nk rfl,Array.getElem?_setIfInBounds_self_of_lt (by omega)]
        exact ha.head
       ·rw [Nf e,P5 (fun h=>e h.symm),<-N7]
        exact hv t
theorem Nhw (y:EnvOk P E) (n:Nat) (v:∀m,m<n->CallOkS (Prg.mk P (Env.pure E)) (QR E m)) {i:Nat} {x:LoopB} (z:NC H i=.loop x) (l:lim<=i) {as as':List Value} (f:as.length=x.params.length) (g:(x.params.all (·<x.N))=true) {R:List (Value×NB)}
  (A:OX E n ⟨x.N,[],.skip⟩ lim [.code x.assign,.begin i,.code x.body,.round i] (Td x.fr x.params as) H=some R) (hl:lim<=H.length)
  (d:Inv (Prg.mk P (Env.pure E)) W lim σ H w) (u:OV σ as as') {L:Loc} (t:σ i=some L) :
  ∃r,w.heap[L.blk]? = some (.loop r)/\as'.toArray.size=r.params.size/\RoundIn Fence.wide 0 P L.blk r.fn (TB r as'.toArray) r.assign r.body w fun e w'=>∃x∈R,VV (Prg.mk P (Env.pure E)) W lim σ H x.1 x.2 w e w':=by
 obtain ⟨r,h1,h2⟩:=d.loop z t
 have p:as'.toArray.size=r.params.size:=by
  have e:=u.1
  rw [<-Array.length_toList (xs:=r.params),h2.params,List.size_toArray];omega
 refine ⟨r,h1,p,trivial,fun c cs _=>?_⟩
 let b:Frame:={ (default:Frame) with fn:=r.fn,kind:=.normal,roundOf:=some L.blk }
 have k:Frame.round L.blk r.fn (TB r as'.toArray) r.assign r.body .normal=b.atR { tmps:=TB r as'.toArray,defers:=[] } [.code r.assign,.beginRound,.code r.body]:=by
  simp [Frame.round,Frame.atR,b]
 have o:TB r as'.toArray=(x.params.zip as').foldl (fun (tmps:Array Value) (x:Nat×Value)=>tmps.setIfInBounds x.1 x.2) r.tmps:=by
  unfold TB
  rw [<-h2.params,<-Array.foldl_toList]
  simp
 obtain ⟨g1,s⟩:=YI (σ:=σ) x.params as as' x.fr r.tmps x.N f g h2.size u h2.val
 rw [<-o] at g1 s
 obtain ⟨I,q,m,v',w',J,k1,⟨c',cs',e1,rfl⟩,B,C,D,F,G⟩:=Ms (W:=W) y n v n (Ng _) (md:=.r i) (ms:=[]) (ds:=[]) (af:=⟨x.N,[],.skip⟩) (a:={ tmps:=TB r as'.toArray,defers:=[] }) b (c::cs) A (.code (md:=.r i) h2.assign (.begin (.code (md:=.r i) h2.body .nilR))) (fun h=>by cases h) rfl
  ⟨rfl,L,c,cs,rfl,t,rfl⟩ (fun j h=>by cases h;exact l) ⟨⟨g1,rfl,s⟩,d,hl⟩
 cases e1
 rw [<-k] at k1
 exact ⟨.returned v',w',⟨I,q,v',J,rfl,B,C,D,F,G⟩,comesIn_wide.2 k1⟩
theorem Ng5 (hE:EnvOk P E):∀n,CallOkS (Prg.mk P (Env.pure E)) (QR E n):=by
 intro n
 induction n using Nat.strongRecOn with
 | ind n ih=>
 have hgrow:TV (QR E n):=YP fun af lim k fr H L hk hx hl=>Nfo E n af lim _ _ _ _ (fun x hx b l e=>absurd e (hk x hx b l)) hx hl
 have inv:∀{mp lim g as H L},QR E n mp lim (.inl g) as H=some L->
   (∃v,E.orc g as=some v/\L=[(v,H)]/\as.all atom=true/\flat 4 v=true)\/
   (∃af,E.tr g=some af/\((∃v,E.pure g=true/\L=[(v,H)]/\olds H.length 4 v=true/\∃L0,OX E n af H.length [.code af.body] (NH as) H=some L0/\∀r∈L0,r.1=v)\/(mp=false/\OX E n af lim [.code af.body] (NH as) H=some L))):=by
  intro mp lim g as H L h
  unfold QR QP at h
  simp only at h
  split at h
  ·rename_i u hu
   split at h
   ·rename_i hf
    cases h
    simp only [N9] at hf
    exact .inl ⟨u,hu,rfl,hf.1,hf.2⟩
   ·cases h
  ·split at h
   ·cases h
   ·rename_i af haf
    right
    refine ⟨af,haf, ?_⟩
    split at h
    ·rename_i hp
     split at h
     ·rename_i u H1 l h1
      split at h
      ·rename_i hall
       split at h
       ·rename_i hf
        cases h
        refine .inl ⟨u,hp,rfl,hf,_,h1,fun r hr=>?_⟩
        rcases Nu.1 hr with rfl | hr
        ·rfl
        ·exact (Nbn _ _ (Oi.1 hall r hr)).symm
       ·cases h
      ·cases h
     ·cases h
    ·split at h
     ·cases h
     ·rename_i hmp
      exact .inr ⟨by simpa using hmp,h⟩
 have trOk:∀{g af},E.tr g=some af->∃fn,P.funcs[g]? = some fn/\fn.body.isSome=true/\(fn.name == "runtime.NumGoroutine")=false:=by
  intro g af h
  obtain ⟨fn,body,md,c,rs,hfn,hb,hc,hrs,hn,_⟩:=Nbp (hE.tr g af h)
  exact ⟨fn,hfn,by rw [hb];rfl,hn⟩
 have invR:∀{mp lim i as H L},QR E n mp lim (.inr i) as H=some L->mp=false/\∃x,NC H i=.loop x/\lim<=i/\as.length=x.params.length/\(x.params.all (·<x.N))=true/\
   OX E n ⟨x.N,[],.skip⟩ lim [.code x.assign,.begin i,.code x.body,.round i] (Td x.fr x.params as) H=some L:=by
  intro mp lim i as H L h
  unfold QR QP at h
  simp only at h
  split at h
  ·cases h
  rename_i hmp
  split at h
  ·rename_i x hb
   split at h
   ·rename_i hc
    exact ⟨by simpa using hmp,x,hb,hc.1,hc.2.1,hc.2.2,h⟩
   ·cases h
  ·cases h
 refine { pure:=?_,fn:=?_,calls:=?_,rounds:=?_,grow:=hgrow }
 ·intro mp lim g as H L h
  rcases inv h with ⟨v,e,_⟩ | ⟨af,e,_⟩
  ·exact hE.orcFn _ _ _ e
  ·exact trOk e
 ·intro mp lim g as H L h hl W σ w as' hinv ha
  rcases inv h with ⟨v,e,rfl,hat,hfl⟩ | ⟨af,e,⟨v,hp,rfl,hfl,L0,hx,hall⟩ | ⟨_,hx⟩⟩
  ·have heq:as'=as:=by
    apply Qo ha.1.symm
    intro i h1 h2
    exact (ha.2 i _ _ (Np h2) (Np h1)).eq_of_atom (Oi.1 hat _ (by simp))
   subst heq
   refine (hE.orc _ _ _ e w).mono fun en w' hp=>?_
   obtain ⟨rfl,hb⟩:=hp
   refine ⟨_,Ni.2 rfl,v,σ,rfl, ?_,hinv.world hb.size (fun k hk=>hb.block k hk),⟨hb.os,hb.tape,hb.output,hb.size,fun k hk=>hb.block k ?_⟩,PT.le_refl _,fun j hj=>absurd rfl hj⟩
   ·exact hE.orcFlat _ _ _ e σ
   ·rcases Om k w.heap.size with h | h
    ·exact h
    ·exact absurd (hinv.fresh k h) hk
  ·have hinv':Inv (Prg.mk P (Env.pure E)) (fun k=>w.heap.size<=k) H.length σ H w:=⟨hinv.blk,hinv.inj,fun i b L hb ho hli hL=>by
    have:=(List.getElem?_eq_some_iff.1 hb).1
    omega,fun b hb=>hb,hinv.dom⟩
   refine (Nc5 hE n ih (hE.tr _ _ e) hx (Ng _) hinv' ha).mono fun en w' hp=>?_
   obtain ⟨r,hr,v',σ',rfl,h1,h2,h3,h4,h5⟩:=hp
   rw [hall r hr] at h1
   have hsm:∀k,k<w.heap.size->w'.heap[k]? = w.heap[k]?:=fun k hk=>h3.block k (by omega)
   refine ⟨_,Ni.2 rfl,v',σ,rfl,h1.olds (fun i L hi hL=>by rw [<-hL];exact (Ns fun e=>by have:=h5 i (Ne.symm e);omega:σ i=σ' i)) 4 hfl,hinv.world h3.size hsm,⟨h3.os,h3.tape,h3.output,h3.size,fun k hk=>hsm k ?_⟩,PT.le_refl _,fun j hj=>absurd rfl hj⟩
   rcases Om k w.heap.size with h | h
   ·exact h
   ·exact absurd (hinv.fresh k h) hk
  ·exact Nc5 hE n ih (hE.tr _ _ e) hx hl hinv ha
 ·intro mp lim i as H L h hl W σ w as' L0 hinv ha hL
  obtain ⟨_,x,hb,h1,h2,h3,h4⟩:=invR h
  exact Nhw hE n ih hb h1 h2 h3 h4 hl hinv ha hL
 ·intro lim g as H L h r hr
  cases g with
  | inr i=>obtain ⟨e,_⟩:=invR h;cases e
  | inl g=>
  rcases inv h with ⟨v,_,e,_⟩ | ⟨af,_,⟨v,_,e,_⟩ | ⟨e,_⟩⟩
  ·subst e;rw [Ni] at hr;subst hr;rfl
  ·subst e;rw [Ni] at hr;subst hr;rfl
  ·cases e
theorem Inv.nil (w:World):Inv (Prg.mk P (Env.pure E)) (fun k=>w.heap.size<=k) 0 (fun _=>none) [] w:=
 ⟨fun i b a=>by simp at a,fun i j bi bj Li Lj a=>by simp at a,fun i b L a=>by simp at a,fun b a=>a,fun _ _=>rfl⟩
end
end Go.AM


namespace Go.AM
universe u
namespace Sym
abbrev t (n:Nat):Operand:=.tmp n
abbrev k (v:Value):Operand:=.const v
abbrev i (d:Nat) (o:AOp):AIns:=⟨some d,none,o,none,[]⟩
abbrev zT (n:Int):Operand:=k (.int .i64 n)
abbrev mT (a b:Nat):AIns:=i a (.mov (t b))
abbrev lT (a b:Nat):AIns:=i a (.load1 (t b))
abbrev fT (a n b:Nat):AIns:=i a (.fieldAddr n (t b))
abbrev xT (a e b c:Nat):AIns:=i a (.idxAddrS e (t b) (t c))
abbrev St (n a b:Nat):AIns:=⟨none,none,.store n (t a) (t b),none,[]⟩
abbrev Bt (d:Nat) (o:BinOp) (a b:Nat):AIns:=i d (.bin o (t a) (t b))
abbrev Bc (d:Nat) (o:BinOp) (a:Nat) (c:Int):AIns:=i d (.bin o (t a) (zT c))
abbrev Ce (a b:Nat):ACode:=.cond (t a) .skip (.exit b)
abbrev Nt (d a:Nat):AIns:=i d (.lenSlice (t a))
abbrev Gt (d n a:Nat):AIns:=i d (.loadN n (t a))
abbrev Et (d n a:Nat):AIns:=i d (.extract n (t a))
abbrev Ct (d f:Nat) (l:List Operand):AIns:=i d (.call .any (.func f) l)
abbrev Yp (d g:Nat) (o:AOp):AIns:=⟨some d,some (g,true),o,none,[]⟩
abbrev Yq (d g:Nat) (o:AOp):AIns:=⟨some d,some (g,false),o,none,[]⟩
abbrev Pl (d g a:Nat):AIns:=Yp d g (.load1 (t a))
abbrev Ql (d g a:Nat):AIns:=Yq d g (.load1 (t a))
abbrev Pm (d g a:Nat):AIns:=Yp d g (.mov (t a))
abbrev Qm (d g a:Nat):AIns:=Yq d g (.mov (t a))
abbrev Pf (d g n a:Nat):AIns:=Yp d g (.fieldAddr n (t a))
abbrev Qf (d g n a:Nat):AIns:=Yq d g (.fieldAddr n (t a))
abbrev Px (d g e a b:Nat):AIns:=Yp d g (.idxAddrS e (t a) (t b))
abbrev Qx (d g e a b:Nat):AIns:=Yq d g (.idxAddrS e (t a) (t b))
abbrev Pb (d g:Nat) (o:BinOp) (a b:Nat):AIns:=Yp d g (.bin o (t a) (t b))
abbrev Qb (d g:Nat) (o:BinOp) (a b:Nat):AIns:=Yq d g (.bin o (t a) (t b))
abbrev Zm (d:Nat) (c:Int):AIns:=i d (.mov (zT c))
abbrev At (d a b:Nat):AIns:=i d (.pick (t a) (t b) (k (.bool false)))
abbrev Ot (d a b:Nat):AIns:=i d (.pick (t a) (k (.bool true)) (t b))
abbrev Ut (d a:Nat):AIns:=i d (.un .not (t a))
abbrev Kt (d:Nat) (o:AOp) (m:List Nat):AIns:=⟨some d,none,o,none,m⟩
abbrev Wt (d:Nat) (o:AOp) (n:Nat):AIns:=⟨some d,none,o,some n,[]⟩
abbrev Oz (l:List AIns) (c:ACode):ACode:=.seq (.ops l) c
abbrev Ds (n:Nat) (l:List AIns) (c:ACode):ACode:=.seq (.drawn n l) c
abbrev Bl (n:Nat) (c:ACode):ACode:=.block n (.loop c)
abbrev Vi (n:Int):Value:=.int .i64 n
abbrev Vp (b:Nat):Value:=.pointer (some ⟨b,0,none⟩)
abbrev Sa (b:Nat):Option Addr:=some ⟨b,0,none⟩
abbrev Vz:Value:=.slice none 0 0
abbrev Vc (c:List Value):Blk:=.cells false c
end Sym
structure Bx {α:Sort u} (a:α):Type where
def MO (dt:Bool) (L:List (Value×NB)) (R:Value->NB->Prop):Prop:=(dt=true->∃x,L=[x])/\∀r∈L,R r.1 r.2
theorem MO.mono {dt:Bool} {L:List (Value×NB)} {R R':Value->NB->Prop} (h:MO dt L R) (hr:∀v H,R v H->R' v H):MO dt L R':=⟨h.1,fun r a=>hr _ _ (h.2 r a)⟩
theorem UB {dt:Bool} {v:Value} {H:NB} {R:Value->NB->Prop}:MO dt [(v,H)] R=R v H:=propext ⟨fun h=>h.2 (v,H) (by simp),fun h=>⟨fun _=>⟨_,rfl⟩,fun r hr=>by rw [Ni] at hr;subst hr;exact h⟩⟩
theorem YE {dt:Bool} {r:Value×NB} {R:Value->NB->Prop}:MO dt [r] R=R r.1 r.2:=UB
def PI (E:Env) (af:AFunc) (lim:Nat) (k:List AItem) (fr:Nat->Value) (H:NB) (R:Value->NB->Prop) (_:Bx k:=⟨⟩) (_:Bx R:=⟨⟩):Prop:=
 ∃n L,OX E n af lim k fr H=some L/\MO E.dt L R
def VU (E:Env) (mp:Bool) (lim:Nat) (t:FuncId ⊕ Nat) (as:List Value) (H:NB) (R:Value->NB->Prop) (_:Bx R:=⟨⟩):Prop:=
 ∃n L,QR E n mp lim t as H=some L/\MO E.dt L R
def NR (E:Env) (mp:Bool) (lim:Nat) (g:FuncId) (as:List Value) (H:NB) (R:Value->NB->Prop) (_:Bx R:=⟨⟩):Prop:=
 ∃n L,QR E n mp lim (.inl g) as H=some L/\MO E.dt L R
def YS (E:Env) (mp:Bool) (lim:Nat) (i:Nat) (as:List Value) (H:NB) (R:Value->NB->Prop) (_:Bx R:=⟨⟩):Prop:=
 ∃n L,QR E n mp lim (.inr i) as H=some L/\MO E.dt L R
def dT (E:Env):Env:={ E with dt:=true }
class DT (E:Env) (E':outParam Env):Prop where
 eq:dT E=E'
def Sk (r:Option (Value×NB)) (f:Value->NB->Prop) (_:Bx f:=⟨⟩):Prop:=match r with | some (v,H')=>f v H' | none=>False
def Nc0 (v:Value) (p q:Prop) (_:Bx p:=⟨⟩) (_:Bx q:=⟨⟩):Prop:=match v with | .bool true=>p | .bool false=>q | _=>False
def Uf (v:Value) (b:Bool) (p q:Prop) (_:Bx p:=⟨⟩) (_:Bx q:=⟨⟩):Prop:=match v with | .bool c=>if c=b then p else q | _=>q
theorem Nar {E:Env} {run:AFunc->Nat->List AItem->(Nat->Value)->NB->Option (List (Value×NB))}:QP (dT E) run=QP E run:=rfl
theorem Noc (E:Env):∀n,OX (dT E) n=OX E n
 | 0=>by funext af lim k fr H;simp [OX]
 | n+1=>by
   have ih:=Noc E n
   funext af lim k fr H
   rw [OX.eq_def,OX.eq_def E]
   simp only [ih,Nar]
theorem Me (E:Env) (n:Nat):QR (dT E) n=QR E n:=by unfold QR;rw [Noc,Nar]
section
variable {E:Env} {af:AFunc} {lim:Nat} {K:List AItem} {fr:Nat->Value} {H:NB} {R:Value->NB->Prop}
theorem NR.weak {E':Env} [h:DT E E'] {mp:Bool} {g:FuncId} {as:List Value} (hc:NR E' mp lim g as H R):NR E mp lim g as H R:=by
 obtain ⟨n,L,h1,h2⟩:=hc
 obtain rfl:=h.eq
 rw [Me] at h1
 exact ⟨n,L,h1,fun _=>h2.1 rfl,h2.2⟩
theorem PI.succ {k k1:List AItem} {fr fr1:Nat->Value} {H H1:NB} (h:∀n,OX E (n+1) af lim k fr H=OX E n af lim k1 fr1 H1):PI E af lim k fr H R=PI E af lim k1 fr1 H1 R:=by
 apply propext
 constructor
 ·rintro ⟨n,L,a,hr⟩
  cases n with
  | zero=>simp [OX] at a
  | succ n=>rw [h] at a;exact ⟨n,L,a,hr⟩
 ·rintro ⟨n,L,a,hr⟩
  exact ⟨n+1,L,by rw [h];exact a,hr⟩
theorem Tp {k:List AItem} {r:Option (Value×NB)} (h:∀n,OX E (n+1) af lim k fr H=one r):PI E af lim k fr H R=Sk r R:=by
 apply propext
 constructor
 ·rintro ⟨n,L,a,hr⟩
  cases n with
  | zero=>simp [OX] at a
  | succ n=>
    rw [h] at a
    obtain ⟨x,rfl,rfl⟩:=Ve a
    rw [YE] at hr
    exact hr
 ·intro b
  cases a:r with
  | none=>rw [a] at b;exact b.elim
  | some p=>rw [a] at b;exact ⟨1,[p],by rw [h,a];rfl,by rw [YE];exact b⟩
theorem Noe {k:List AItem} (h:∀n,OX E (n+1) af lim k fr H=one ((result fr H af.results).map (·,H))):PI E af lim k fr H R=Sk ((result fr H af.results).map (·,H)) R:=Tp h
theorem Nzk {a b}:PI E af lim (.code (.seq a b)::K) fr H R=PI E af lim (.code a::.code b::K) fr H R:=PI.succ fun n=>by rw [OX.eq_def]
theorem Nw8:PI E af lim (.code .skip::K) fr H R=PI E af lim K fr H R:=PI.succ fun n=>by rw [OX.eq_def]
theorem Nw9 {l}:PI E af lim (.code (.ops l)::K) fr H R=PI E af lim (.ops none l::K) fr H R:=PI.succ fun n=>by rw [OX.eq_def]
theorem Nr5 {m l}:PI E af lim (.code (.drawn m l)::K) fr H R=PI E af lim (.ops (some H.length) l::K) fr (H++List.replicate m .dead) R:=PI.succ fun n=>by rw [OX.eq_def]
theorem Nzl:PI E af lim (.code .ret::K) fr H R=Sk ((result fr H af.results).map (·,H)) R:=Noe fun n=>by rw [OX.eq_def]
theorem Nzm:PI E af lim [] fr H R=Sk ((result fr H af.results).map (·,H)) R:=Noe fun n=>by rw [OX.eq_def]
theorem YD {id b}:PI E af lim (.code (.block id b)::K) fr H R=PI E af lim (.code b::.inBlock id::K) fr H R:=PI.succ fun n=>by rw [OX.eq_def]
theorem Nj1 {id}:PI E af lim (.inBlock id::K) fr H R=PI E af lim K fr H R:=PI.succ fun n=>by rw [OX.eq_def]
theorem Ym {b}:PI E af lim (.code (.loop b)::K) fr H R=PI E af lim (.code b::.inLoop b::K) fr H R:=PI.succ fun n=>by rw [OX.eq_def]
theorem UU {b}:PI E af lim (.inLoop b::K) fr H R=PI E af lim (.code b::.inLoop b::K) fr H R:=PI.succ fun n=>by rw [OX.eq_def]
theorem Wn {b}:PI E af lim (.ops b []::K) fr H R=PI E af lim K fr H R:=PI.succ fun n=>by rw [OX.eq_def]
theorem Ndw {id K'} (h:RQ id K=some K'):PI E af lim (.code (.exit id)::K) fr H R=PI E af lim K' fr H R:=PI.succ fun n=>by rw [OX.eq_def];simp only [h]
theorem Nxa {c a b}:PI E af lim (.code (.cond c a b)::K) fr H R=Nc0 (ev fr c) (PI E af lim (.code a::K) fr H R) (PI E af lim (.code b::K) fr H R):=by
 cases hc:ev fr c with
 | bool t=>cases t<;>exact PI.succ fun n=>by rw [OX.eq_def];simp only [hc]
 | _=>
   apply propext
   constructor
   ·rintro ⟨n,L,d,hr⟩
    cases n with
    | zero=>simp [OX] at d
    | succ n=>rw [OX.eq_def] at d;simp only [hc] at d;cases d
   ·intro h;exact h.elim
theorem PI.det {k:List AItem} {n m:Nat} {r r':List (Value×NB)} (h:OX E n af lim k fr H=some r) (h':OX E m af lim k fr H=some r'):r=r':=by
 have h1:=V8 E (Qq n m) h
 have h2:=V8 E (Py n m) h'
 rw [h1] at h2;exact Option.some.inj h2
def MB:AOp->Bool
 | .call ..=>true
 | _=>false
def dOk (N:Nat):Option Nat->Bool
 | none=>true
 | some d=>decide (d<N)
def Npd (d:Option Nat) (fr:Nat->Value) (v:Value):Nat->Value:=match d with | none=>fr | some d=>upd fr d v
def gK (N:Nat) (fr:Nat->Value) (g:Option (Nat×Bool)) (p q:Prop) (_:Bx p:=⟨⟩) (_:Bx q:=⟨⟩):Prop:=match RY N fr g with | none=>False | some true=>p | some false=>q
def oK (E:Env) (lim:Nat) (base:Option Nat) (dest:Option Nat) (mask:List Nat) (o:AOp) (fr:Nat->Value) (H:NB) (Q:Value->NB->Prop) (_:Bx Q:=⟨⟩):Prop:=
 match base with
 | none=>∃n L,Vv (QR E n) lim ⟨none,none,o,dest,mask⟩ (ev fr) H=some L/\MO E.dt L Q
 | some b=>∃n v H',QZ (det (QR E n)) lim (dest.map (b+·)) o (ev fr) (OE b mask H)=some (v,H')/\Q v (OA b mask H H')
theorem ZC {N:Nat} {d:Option Nat} (h:dOk N d=true) (v:Value):XR N fr d v=some (Npd d fr v):=by
 cases d with
 | none=>rfl
 | some d=>simp [dOk] at h;simp [XR,Npd,h]
theorem Nzn {L:List ((Nat->Value)×NB)} {k:List AItem} (h:∀r∈L,PI E af lim k r.1 r.2 R):∃N,∀r∈L,∃s,OX E N af lim k r.1 r.2=some s/\MO E.dt s R:=by
 induction L with
 | nil=>exact ⟨0,fun r hr=>by cases hr⟩
 | cons x L ih=>
   obtain ⟨N,b⟩:=ih fun r hr=>h r (by simp [hr])
   obtain ⟨n,s,h1,h2⟩:=h x (by simp)
   refine ⟨max N n,fun r hr=>?_⟩
   rcases Nu.1 hr with rfl | hr
   ·exact ⟨s,V8 E (Py N n) h1,h2⟩
   ·obtain ⟨c,g1,a⟩:=b r hr
    exact ⟨c,V8 E (Qq N n) g1,a⟩
theorem YA {α β:Type} {f:α->Option (List β)} {l:List α} {r:List β} (h:TY f l=some r) (e:∀x∈l,∀s,f x=some s->s≠[]) {y:β} (hr:r=[y]):∃x,l=[x]:=by
 cases l with
 | nil=>simp [TY] at h;rw [<-h] at hr;cases hr
 | cons a l=>
   cases l with
   | nil=>exact ⟨a,rfl⟩
   | cons b l=>
     simp only [TY] at h
     split at h
     ·rename_i s t g d
      split at d
      ·rename_i s2 j c i
       cases d
       cases h
       have h1:=e a (by simp) s g
       have h2:=e b (by simp) s2 c
       cases s with
       | nil=>exact absurd rfl h1
       | cons _ s=>
         cases s2 with
         | nil=>exact absurd rfl h2
         | cons _ _=>simp at hr
      ·cases d
     ·cases h
theorem Nr6 {x:AIns} {l:List AIns}:PI E af lim (.ops none (x::l)::K) fr H R=∃n L,Ze (QR E n) af.ntmps lim x fr H=some L/\(E.dt=true->∃y,L=[y])/\∀r∈L,PI E af lim (.ops none l::K) r.1 r.2 R:=by
 apply propext
 constructor
 ·rintro ⟨n,L,b,hr⟩
  cases n with
  | zero=>simp [OX] at b
  | succ n=>
    rw [OX.eq_def] at b
    simp only at b
    split at b
    ·rename_i L0 h1
     refine ⟨n,L0,h1,fun hd=>?_,fun r c=>?_⟩
     ·obtain ⟨y,j⟩:=hr.1 hd
      exact YA b (fun x _ s a=>YB E _ _ _ _ _ _ _ a) j
     ·obtain ⟨s,a,h⟩:=UR b r c
      refine ⟨n,s,a,fun hd=>?_,fun q m=>hr.2 q (h q m)⟩
      obtain ⟨y,j⟩:=hr.1 hd
      obtain ⟨z,p⟩:=YA b (fun x _ s a=>YB E _ _ _ _ _ _ _ a) j
      subst p
      rw [Ni] at c
      subst c
      simp only [TY,a,Option.some.injEq,Na] at b
      exact ⟨y,b.trans j⟩
    ·cases b
 ·rintro ⟨n,L0,h1,hd,h2⟩
  obtain ⟨N,k⟩:=Nzn h2
  have e:Ze (QP E (OX E (max n N))) af.ntmps lim x fr H=some L0:=MC (VS E (Qq n N)) h1
  obtain ⟨L,i⟩:=Xv (f:=fun r:(Nat->Value)×NB=>OX E (max n N) af lim (.ops none l::K) r.1 r.2) (l:=L0) fun r hr=>by
   obtain ⟨s,a,_⟩:=k r hr
   exact ⟨s,V8 E (Py n N) a⟩
  refine ⟨max n N+1,L,by rw [OX.eq_def];simp only [e,i],fun g=>?_,fun q m=>?_⟩
  ·obtain ⟨y,rfl⟩:=hd g
   obtain ⟨s,a,ho⟩:=k y (by simp)
   have d:=V8 E (Py n N) a
   simp only [TY,d,Option.some.injEq,Na] at i
   obtain ⟨z,p⟩:=ho.1 g
   exact ⟨z,by rw [<-i,p]⟩
  ·obtain ⟨r,hr,s,a,o⟩:=UT i q m
   obtain ⟨t,d,ho⟩:=k r hr
   have:=PI.det a d
   subst this
   exact ho.2 q o
theorem Nr7 {b:Nat} {x:AIns} {l:List AIns}:PI E af lim (.ops (some b) (x::l)::K) fr H R=∃n,∃fr' H',TJ (det (QR E n)) af.ntmps lim (some b) x fr H=some (fr',H')/\PI E af lim (.ops (some b) l::K) fr' H' R:=by
 apply propext
 constructor
 ·rintro ⟨n,L,a,hr⟩
  cases n with
  | zero=>simp [OX] at a
  | succ n=>
    rw [OX.eq_def] at a
    simp only at a
    split at a
    ·rename_i fr' H1 h1
     exact ⟨n,fr',H1,h1,n,L,a,hr⟩
    ·cases a
 ·rintro ⟨n,fr',H1,h1,m,L,a,hr⟩
  refine ⟨max n m+1,L, ?_,hr⟩
  rw [OX.eq_def]
  simp only
  have e:TJ (det (QP E (OX E (max n m)))) af.ntmps lim (some b) x fr H=some (fr',H1):=Zf (VS E (Qq n m)).det h1
  rw [e]
  exact V8 E (Py n m) a
theorem N0v {base d g o dest mask l} (hd:dOk af.ntmps d=true):PI E af lim (.ops base (⟨d,g,o,dest,mask⟩::l)::K) fr H R =
  gK af.ntmps fr g (oK E lim base dest mask o fr H fun v H'=>PI E af lim (.ops base l::K) (Npd d fr v) H' R) (PI E af lim (.ops base l::K) (Npd d fr undef) H R):=by
 cases base with
 | none=>
   rw [Nr6]
   unfold gK Ze
   simp only
   cases hw:RY af.ntmps fr g with
   | none=>simp
   | some t=>
     cases t with
     | false=>
       simp only [ZC hd,Nz,Option.some.injEq]
       apply propext
       constructor
       ·rintro ⟨n,L,rfl,_,h⟩
        exact h _ (Ni.2 rfl)
       ·intro h
        exact ⟨0,_,rfl,fun _=>⟨_,rfl⟩,fun r hr=>by rw [Ni] at hr;subst hr;exact h⟩
     | true=>
       simp only [oK]
       have j:∀n,Vv (QR E n) lim ⟨d,g,o,dest,mask⟩ (ev fr) H=Vv (QR E n) lim ⟨none,none,o,dest,mask⟩ (ev fr) H:=fun n=>rfl
       have k:∀L:List (Value×NB),Nax (fun r:Value×NB=>(XR af.ntmps fr d r.1).map (·,r.2)) L=some (L.map fun r=>(Npd d fr r.1,r.2)):=fun L=>by
        induction L with
        | nil=>rfl
        | cons x L ih=>rw [Nax,ih,ZC hd];rfl
       simp only [j]
       apply propext
       constructor
       ·rintro ⟨n,L,h1,c,h2⟩
        split at h1
        ·rename_i L0 i
         rw [k] at h1
         cases h1
         refine ⟨n,L0,i,fun he=>?_,fun r hr=>h2 _ (List.mem_map.2 ⟨r,hr,rfl⟩)⟩
         obtain ⟨y,m⟩:=c he
         cases L0 with
         | nil=>cases m
         | cons a L0=>
           cases L0 with
           | nil=>exact ⟨a,rfl⟩
           | cons b L0=>simp at m
        ·cases h1
       ·rintro ⟨n,L0,h1,c,h2⟩
        refine ⟨n,L0.map fun r=>(Npd d fr r.1,r.2),by rw [h1];exact k L0,fun he=>?_,fun r hr=>?_⟩
        ·obtain ⟨y,rfl⟩:=c he
         exact ⟨_,rfl⟩
        ·obtain ⟨q,w,rfl⟩:=List.mem_map.1 hr
         exact h2 q w
 | some b=>
   rw [Nr7]
   unfold gK TJ Ti
   simp only
   cases hw:RY af.ntmps fr g with
   | none=>simp
   | some t=>
     cases t with
     | false=>
       simp only [Nd,Prod.mk.injEq,ZC hd]
       apply propext
       constructor
       ·rintro ⟨n,fr',H',⟨f,h1,h2,s⟩,e⟩
        cases h1;subst h2 s;exact e
       ·intro h
        exact ⟨0,_,_,⟨_,rfl,rfl,rfl⟩,h⟩
     | true=>
       simp only [oK]
       apply propext
       constructor
       ·rintro ⟨n,fr',H',h1,e⟩
        split at h1
        ·rename_i v H1 i
         split at i
         ·rename_i v' p u
          cases i
          rw [ZC hd] at h1
          simp only [Nz,Option.some.injEq,Prod.mk.injEq] at h1
          obtain ⟨rfl,rfl⟩:=h1
          exact ⟨n,v,p,u,e⟩
         ·cases i
        ·cases h1
       ·rintro ⟨n,v,H',h1,e⟩
        refine ⟨n,_,_, ?_,e⟩
        rw [h1]
        simp only [ZC hd,Nz]
theorem Nyp {N:Nat} {p q:Prop}:gK N fr none p q=p:=rfl
theorem Nyo {N g:Nat} {b:Bool} {p q:Prop} (h:g<N):gK N fr (some (g,b)) p q=Uf (fr g) b p q:=by
 unfold gK RY Uf
 simp only [h,if_true]
 cases fr g<;>simp
 rename_i c
 cases c<;>cases b<;>simp
variable {base dest:Option Nat} {mask:List Nat} {o:AOp} {Q:Value->NB->Prop}
theorem Nox {C:TZ} {ρ:Operand->Value} (h:MB o=false):QZ C lim dest o ρ H=NJ lim dest o ρ H:=by
 cases o<;>first | rfl | (simp [MB] at h)
theorem Nsl {C:TA} {ρ:Operand->Value} (h:MB o=false):Vv C lim ⟨none,none,o,none,mask⟩ ρ H=(NJ lim none o ρ H).map fun r=>[r]:=by
 unfold Vv
 cases o<;>first | rfl | (simp [MB] at h)
theorem PH (h:MB o=false):oK E lim none none mask o fr H Q=Sk (NJ lim none o (ev fr) H) Q:=by
 unfold oK Sk
 simp only [Nsl h]
 cases NJ lim none o (ev fr) H with
 | none=>simp
 | some p=>exact propext ⟨by rintro ⟨_,_,h,q⟩;cases h;rw [YE] at q;exact q,fun q=>⟨0,_,rfl,by rw [YE];exact q⟩⟩
theorem OY {b:Nat} (h:MB o=false):oK E lim (some b) dest mask o fr H Q=Sk (NJ lim (dest.map (b+·)) o (ev fr) (OE b mask H)) fun v H'=>Q v (OA b mask H H'):=by
 unfold oK Sk
 simp only [Nox h]
 cases NJ lim (dest.map (b+·)) o (ev fr) (OE b mask H) with
 | none=>simp
 | some p=>exact propext ⟨by rintro ⟨_,_,_,h,q⟩;cases h;exact q,fun q=>⟨0,_,_,rfl,q⟩⟩
def Ng6 (c:Option ((FuncId ⊕ Nat)×List Value)) (f:FuncId ⊕ Nat->List Value->Prop) (_:Bx f:=⟨⟩):Prop:=match c with | some (g,as)=>f g as | none=>False
theorem MQ {mp:Bool} {g:FuncId} {as:List Value}:VU E mp lim (.inl g) as H Q=NR E mp lim g as H Q:=rfl
theorem Nfr {mp:Bool} {i:Nat} {as:List Value}:VU E mp lim (.inr i) as H Q=YS E mp lim i as H Q:=rfl
theorem Nri {g:FuncId ⊕ Nat} {as:List Value} {f:FuncId ⊕ Nat->List Value->Prop}:Ng6 (some (g,as)) f=f g as:=rfl
theorem Ns0:CM.any.isPure=false:=id rfl
theorem Npf:CM.pure.isPure=true:=id rfl
theorem Nxq:CM.mk.isPure=false:=id rfl
def CM.free:CM->Bool
 | .maps | .recs=>false
 | _=>true
theorem Nv1:CM.free .any=true:=id rfl
theorem Nqq:CM.free .pure=true:=id rfl
theorem Nyr:CM.free .mk=true:=id rfl
theorem Nlh {H:NB} {p:Addr}:loadX none H p=loadCell H p:=id rfl
theorem Nlg {H:NB} {p:Addr} {k:Nat}:loadX (some k) H p=(loadCells H p k).map fun c=>.agg c.toArray:=id rfl
theorem Nlr {ro:Bool} {p:Option Addr} {l:List Value}:Tw (.cells ro (.pointer p::l))=true:=id rfl
theorem Ngs {ro:Bool} {p:Option Addr} {n c:Nat} {l:List Value}:Tw (.cells ro (.slice p n c::l))=true:=id rfl
theorem Nls {ro:Bool} {k:IntKind} {n:Int} {l:List Value}:Tw (.cells ro (.int k n::l))=Tw (.cells ro l):=id rfl
theorem Nx9 {H:NB}:CM.any.lim lim H=lim:=id rfl
theorem Nt3 {H:NB}:CM.pure.lim lim H=lim:=id rfl
theorem N1p {H:NB}:CM.mk.lim lim H=H.length:=id rfl
theorem Nck {mp:CM} (a:mp.free=true) {H:NB}:∀L:List (Value×NB),Nax (fun r=>Vs mp H (some r)) L=some L
 | []=>rfl
 | x::L=>by
   have e:Vs mp H (some x)=some x:=by cases mp<;>first | rfl | cases a
   simp only [Nax,e,Nck a L]
theorem Nx5 {mp:CM} {f:Operand} {args:List Operand} (a:mp.free=true):oK E lim none none mask (.call mp f args) fr H Q=Ng6 (NE (ev fr f) (args.map (ev fr))) fun g as=>VU E mp.isPure (mp.lim lim H) g as H Q:=by
 unfold oK Ng6 VU
 simp only [Vv,XL]
 cases NE (ev fr f) (args.map (ev fr)) with
 | none=>simp
 | some p=>
   obtain ⟨g,as⟩:=p
   simp only
   apply propext
   constructor
   ·rintro ⟨n,L,h,q⟩
    split at h
    ·rename_i L0 b
     rw [Nck a] at h
     cases h
     exact ⟨n,L,b,q⟩
    ·cases h
   ·rintro ⟨n,L,h,q⟩
    exact ⟨n,L,by rw [h];exact Nck a L,q⟩
theorem ZR {C:TA} {mp:Bool} {t:FuncId ⊕ Nat} {as:List Value} {p:Value×NB}:det C mp lim t as H=some p↔C mp lim t as H=some [p]:=by
 unfold det
 constructor
 ·exact fun h=>SQ h
 ·intro h;rw [h];rfl
theorem Ntr {E':Env} [hE:DT E E'] {b:Nat} {mp:CM} {f:Operand} {args:List Operand} (a:mp.free=true):oK E lim (some b) dest mask (.call mp f args) fr H Q=Ng6 (NE (ev fr f) (args.map (ev fr))) fun g as=>VU E' mp.isPure (mp.lim lim (OE b mask H)) g as (OE b mask H) fun v H'=>Q v (OA b mask H H'):=by
 obtain rfl:=hE.eq
 unfold oK Ng6 QZ VU
 simp only
 cases NE (ev fr f) (args.map (ev fr)) with
 | none=>simp
 | some p=>
   obtain ⟨g,as⟩:=p
   have e:∀r,Vs mp (OE b mask H) r=r:=fun r=>by cases mp<;>first | rfl | cases a
   simp only [e,ZR,Me]
   apply propext
   constructor
   ·rintro ⟨n,v,H',h,q⟩
    exact ⟨n,_,h,by rw [UB];exact q⟩
   ·rintro ⟨n,L,h,q⟩
    obtain ⟨⟨v,H'⟩,rfl⟩:=q.1 rfl
    rw [UB] at q
    exact ⟨n,v,H',h,q⟩
theorem Ntq {E':Env} [hE:DT E E'] {b:Nat} {f:Operand} {args:List Operand}:oK E lim (some b) dest mask (.call .maps f args) fr H Q=Ng6 (NE (ev fr f) (args.map (ev fr))) fun g as=>VU E' false lim g as (OE b mask H) fun v H'=>WU (OE b mask H) H'=true/\Q v (OA b mask H H'):=by
 obtain rfl:=hE.eq
 unfold oK Ng6 VU
 simp only [QZ]
 cases NE (ev fr f) (args.map (ev fr)) with
 | none=>simp
 | some p=>
   obtain ⟨g,as⟩:=p
   simp only [Me]
   apply propext
   constructor
   ·rintro ⟨n,v,H',h,q⟩
    obtain ⟨h1,h2⟩:=Tm h
    exact ⟨n,_,ZR.1 h1,by rw [UB];exact ⟨h2 rfl,q⟩⟩
   ·rintro ⟨n,L,h1,q⟩
    obtain ⟨⟨v,H'⟩,rfl⟩:=q.1 rfl
    rw [UB] at q
    obtain ⟨h2,q⟩:=q
    refine ⟨n,v,H', ?_,q⟩
    show Vs .maps (OE b mask H) (det (QR E n) false lim g as (OE b mask H))=some (v,H')
    rw [ZR.2 h1]
    simp only [Vs,Nk h2]
theorem Ntp {E':Env} [hE:DT E E'] {b:Nat} {f:Operand} {args:List Operand}:oK E lim (some b) dest mask (.call .recs f args) fr H Q=Ng6 (NE (ev fr f) (args.map (ev fr))) fun g as=>VU E' false lim g as (OE b mask H) fun v H'=>VG (OE b mask H) H'=true/\Q v (OA b mask H H'):=by
 obtain rfl:=hE.eq
 unfold oK Ng6 VU
 simp only [QZ]
 cases NE (ev fr f) (args.map (ev fr)) with
 | none=>simp
 | some p=>
   obtain ⟨g,as⟩:=p
   simp only [Me]
   apply propext
   constructor
   ·rintro ⟨n,v,H',h,q⟩
    have h2:=MH h
    exact ⟨n,_,ZR.1 (Tm h).1,by rw [UB];exact ⟨h2,q⟩⟩
   ·rintro ⟨n,L,h1,q⟩
    obtain ⟨⟨v,H'⟩,rfl⟩:=q.1 rfl
    rw [UB] at q
    obtain ⟨h2,q⟩:=q
    refine ⟨n,v,H', ?_,q⟩
    show Vs .recs (OE b mask H) (det (QR E n) false lim g as (OE b mask H))=some (v,H')
    rw [ZR.2 h1]
    simp only [Vs,Nk h2]
theorem VU.all {mp:Bool} {t:FuncId ⊕ Nat} {as:List Value} {n:Nat} {L:List (Value×NB)} (h:QR E n mp lim t as H=some L):VU E mp lim t as H Q=MO E.dt L Q:=by
 apply propext
 constructor
 ·rintro ⟨m,b,h1,h2⟩
  have e1:=VS E (Qq n m) _ _ _ _ _ _ h
  have e2:=VS E (Py n m) _ _ _ _ _ _ h1
  rw [e1] at e2;cases e2;exact h2
 ·exact fun a=>⟨n,L,h,a⟩
theorem NR.det {mp:Bool} {g:FuncId} {as:List Value} {n:Nat} {v:Value} {H':NB} (h:QR E n mp lim (.inl g) as H=some [(v,H')]):NR E mp lim g as H Q=Q v H':=by
 rw [<-MQ,VU.all h,UB]
theorem Nfs {mp:Bool} {g:FuncId} {as:List Value} {v:Value} (ho:E.orc g as=none) (d:E.tr g=some af) (hp:E.pure g=true) (c:olds H.length 4 v=true) (h:PI E af H.length [.code af.body] (NH as) H fun v' _=>v'=v):NR E mp lim g as H Q=Q v H:=by
 obtain ⟨n,L,h1,hd,h2⟩:=h
 have b:=YB E _ _ _ _ _ _ _ h1
 cases L with
 | nil=>exact absurd rfl b
 | cons x L=>
   obtain ⟨v',H'⟩:=x
   have e1:v'=v:=h2 _ (Nm)
   subst e1
   have a:(L.all fun r=>RL v' r.1)=true:=Oi.2 fun r hr=>by
    have:r.1=v':=h2 r (Nh _ hr)
    rw [this];exact YT v'
   exact NR.det (n:=n) (by unfold QR QP;simp only [ho,d,hp,if_true,h1,a,c])
theorem Zu {mp:Bool} {g:FuncId} {as:List Value} {v:Value} (ho:E.orc g as=none) (b:E.tr g=some af) (hp:E.pure g=true) (a:flat 4 v=true) (h:PI E af H.length [.code af.body] (NH as) H fun v' _=>v'=v):NR E mp lim g as H Q=Q v H:=
 Nfs ho b hp (Xf 4 a) h
theorem Nr9 {mp:Bool} {g:FuncId} {as:List Value} {v:Value} (ho:E.orc g as=some v) (a:as.all atom=true) (b:flat 4 v=true):NR E mp lim g as H Q=Q v H:=
 NR.det (n:=0) (by unfold QR QP;simp only [ho,a,b,Bool.and_self,if_true])
theorem UV {mp:Bool} {g:FuncId} {as:List Value} (ho:E.orc g as=none) (b:E.tr g=some af) (hp:E.pure g=false) (a:mp=false):NR E mp lim g as H Q=PI E af lim [.code af.body] (NH as) H Q:=by
 unfold NR PI QR QP
 simp only [ho,b,hp,a,Oe,if_false]
end
section
variable {E:Env} {af:AFunc} {lim:Nat} {K:List AItem} {fr fr':Nat->Value} {H H':NB} {R:Value->NB->Prop}
theorem Nh7 {v:Value} {f:Value->NB->Prop}:Sk (some (v,H)) f=f v H:=rfl
theorem upd_same {d:Nat} {v:Value}:upd fr d v d=v:=by simp [upd]
theorem upd_ne {d t:Nat} {v:Value} (h:t≠d):upd fr d v t=fr t:=by simp [upd,h]
theorem N12 {t:Nat}:ev fr (.tmp t)=fr t:=rfl
theorem Nv6 {v:Value}:ev fr (.const v)=v:=rfl
theorem Nys {f:FuncId}:ev fr (.func f)=.func (.func f) #[] #[]:=rfl
theorem NK {X:NB} {j:Nat} (h:j<H.length):NC (H++X) j=NC H j:=by
 unfold NC;rw [Nc,Nc,Od h]
theorem OL {X:NB} {j:Nat}:NC (H++X) (H.length+j)=X.getD j .dead:=by
 unfold NC;rw [Nc,Nc,Og (by omega)];simp
theorem NN {X:NB}:NC (H++X) H.length=X.getD 0 .dead:=OL (j:=0)
theorem Nmx {X:NB} {j:Nat} {b:Blk}:(H++X).set (H.length+j) b=H++X.set j b:=by
 rw [Q9 _ _ (by omega)];simp
theorem Nb0 {X:NB} {b:Blk}:(H++X).set H.length b=H++X.set 0 b:=Nmx (j:=0)
theorem Ntz {b:Nat}:OE b [] H=H:=rfl
theorem WX {b:Nat} {H0:NB}:OA b [] H0 H=H:=rfl
end
section
variable {E:Env} {lim b:Nat} {dest:Option Nat} {mask:List Nat} {fr:Nat->Value} {H:NB} {Q:Value->NB->Prop}
theorem N1c {a:Operand}:oK E lim none none mask (.mov a) fr H Q=Sk (NJ lim none (.mov a) (ev fr) H) Q:=PH rfl
theorem N1g {a:Operand}:oK E lim (some b) dest mask (.mov a) fr H Q=Sk (NJ lim (dest.map (b+·)) (.mov a) (ev fr) (OE b mask H)) fun v H'=>Q v (OA b mask H H'):=OY rfl
theorem Nxu {c a b:Operand}:oK E lim none none mask (.pick c a b) fr H Q=Sk (NJ lim none (.pick c a b) (ev fr) H) Q:=PH rfl
theorem Nx0 {d a c:Operand}:oK E lim (some b) dest mask (.pick d a c) fr H Q=Sk (NJ lim (dest.map (b+·)) (.pick d a c) (ev fr) (OE b mask H)) fun v H'=>Q v (OA b mask H H'):=OY rfl
theorem N1f {a:BinOp} {b c:Operand}:oK E lim none none mask (.bin a b c) fr H Q=Sk (NJ lim none (.bin a b c) (ev fr) H) Q:=PH rfl
theorem N1j {a:BinOp} {c d:Operand}:oK E lim (some b) dest mask (.bin a c d) fr H Q=Sk (NJ lim (dest.map (b+·)) (.bin a c d) (ev fr) (OE b mask H)) fun v H'=>Q v (OA b mask H H'):=OY rfl
theorem N1d {a:Bool} {b:EqKind} {c d:Operand}:oK E lim none none mask (.eqv a b c d) fr H Q=Sk (NJ lim none (.eqv a b c d) (ev fr) H) Q:=PH rfl
theorem N1h {a:Bool} {c:EqKind} {d e:Operand}:oK E lim (some b) dest mask (.eqv a c d e) fr H Q=Sk (NJ lim (dest.map (b+·)) (.eqv a c d e) (ev fr) (OE b mask H)) fun v H'=>Q v (OA b mask H H'):=OY rfl
theorem N3i {a:UnOp} {b:Operand}:oK E lim none none mask (.un a b) fr H Q=Sk (NJ lim none (.un a b) (ev fr) H) Q:=PH rfl
theorem N3k {a:UnOp} {c:Operand}:oK E lim (some b) dest mask (.un a c) fr H Q=Sk (NJ lim (dest.map (b+·)) (.un a c) (ev fr) (OE b mask H)) fun v H'=>Q v (OA b mask H H'):=OY rfl
theorem Nxx {a:IntKind} {b:Operand}:oK E lim none none mask (.conv a b) fr H Q=Sk (NJ lim none (.conv a b) (ev fr) H) Q:=PH rfl
theorem Nx3 {a:IntKind} {c:Operand}:oK E lim (some b) dest mask (.conv a c) fr H Q=Sk (NJ lim (dest.map (b+·)) (.conv a c) (ev fr) (OE b mask H)) fun v H'=>Q v (OA b mask H H'):=OY rfl
theorem Ntf {a:List Value}:oK E lim none none mask (.alloc a) fr H Q=Sk (NJ lim none (.alloc a) (ev fr) H) Q:=PH rfl
theorem Nto {a:List Value}:oK E lim (some b) dest mask (.alloc a) fr H Q=Sk (NJ lim (dest.map (b+·)) (.alloc a) (ev fr) (OE b mask H)) fun v H'=>Q v (OA b mask H H'):=OY rfl
theorem N1e {a:Operand}:oK E lim none none mask (.box a) fr H Q=Sk (NJ lim none (.box a) (ev fr) H) Q:=PH rfl
theorem N1i {a:Operand}:oK E lim (some b) dest mask (.box a) fr H Q=Sk (NJ lim (dest.map (b+·)) (.box a) (ev fr) (OE b mask H)) fun v H'=>Q v (OA b mask H H'):=OY rfl
theorem Nte {b:List Value} {a:List (Nat×Nat×Operand)}:oK E lim none none mask (.build b a) fr H Q=Sk (NJ lim none (.build b a) (ev fr) H) Q:=PH rfl
theorem Ntn {c:List Value} {a:List (Nat×Nat×Operand)}:oK E lim (some b) dest mask (.build c a) fr H Q=Sk (NJ lim (dest.map (b+·)) (.build c a) (ev fr) (OE b mask H)) fun v H'=>Q v (OA b mask H H'):=OY rfl
theorem Nd3 {c:Nat} {b:List Value} {a:List (Nat×Nat×Operand)}:oK E lim none none mask (.buildSlice c b a) fr H Q=Sk (NJ lim none (.buildSlice c b a) (ev fr) H) Q:=PH rfl
theorem Nd4 {d:Nat} {c:List Value} {a:List (Nat×Nat×Operand)}:oK E lim (some b) dest mask (.buildSlice d c a) fr H Q=Sk (NJ lim (dest.map (b+·)) (.buildSlice d c a) (ev fr) (OE b mask H)) fun v H'=>Q v (OA b mask H H'):=OY rfl
theorem Ntb {a:Operand}:oK E lim none none mask (.load1 a) fr H Q=Sk (NJ lim none (.load1 a) (ev fr) H) Q:=PH rfl
theorem Ntk {a:Operand}:oK E lim (some b) dest mask (.load1 a) fr H Q=Sk (NJ lim (dest.map (b+·)) (.load1 a) (ev fr) (OE b mask H)) fun v H'=>Q v (OA b mask H H'):=OY rfl
theorem Nta {b:Nat} {a:Operand}:oK E lim none none mask (.loadN b a) fr H Q=Sk (NJ lim none (.loadN b a) (ev fr) H) Q:=PH rfl
theorem Nti {c:Option Nat} {a:Operand}:oK E lim (some b) dest mask (.loadR c a) fr H Q=Sk (NJ lim (dest.map (b+·)) (.loadR c a) (ev fr) (OE b mask H)) fun v H'=>Q v (OA b mask H H'):=OY rfl
theorem Ntj {c:Nat} {a:Operand}:oK E lim (some b) dest mask (.loadN c a) fr H Q=Sk (NJ lim (dest.map (b+·)) (.loadN c a) (ev fr) (OE b mask H)) fun v H'=>Q v (OA b mask H H'):=OY rfl
theorem Npy {b c:Nat} {a d:Operand}:oK E lim (some b) dest mask (.storeD c a d) fr H Q=Sk (NJ lim (dest.map (b+·)) (.storeD c a d) (ev fr) (OE b mask H)) fun v H'=>Q v (OA b mask H H'):=OY rfl
theorem Ns9 {b:Nat} {a c:Operand}:oK E lim none none mask (.store b a c) fr H Q=Sk (NJ lim none (.store b a c) (ev fr) H) Q:=PH rfl
theorem Nth {c:Nat} {a d:Operand}:oK E lim (some b) dest mask (.store c a d) fr H Q=Sk (NJ lim (dest.map (b+·)) (.store c a d) (ev fr) (OE b mask H)) fun v H'=>Q v (OA b mask H H'):=OY rfl
theorem Nh9 {a:Operand}:oK E lim none none mask (.nilCheck a) fr H Q=Sk (NJ lim none (.nilCheck a) (ev fr) H) Q:=PH rfl
theorem Nih {a:Operand}:oK E lim (some b) dest mask (.nilCheck a) fr H Q=Sk (NJ lim (dest.map (b+·)) (.nilCheck a) (ev fr) (OE b mask H)) fun v H'=>Q v (OA b mask H H'):=OY rfl
theorem Ngb {a:Nat} {b:Operand}:oK E lim none none mask (.fieldAddr a b) fr H Q=Sk (NJ lim none (.fieldAddr a b) (ev fr) H) Q:=PH rfl
theorem Nge {a:Nat} {c:Operand}:oK E lim (some b) dest mask (.fieldAddr a c) fr H Q=Sk (NJ lim (dest.map (b+·)) (.fieldAddr a c) (ev fr) (OE b mask H)) fun v H'=>Q v (OA b mask H H'):=OY rfl
theorem Npv {a:Nat} {b:Operand}:oK E lim none none mask (.field1 a b) fr H Q=Sk (NJ lim none (.field1 a b) (ev fr) H) Q:=PH rfl
theorem Np6 {a:Nat} {c:Operand}:oK E lim (some b) dest mask (.field1 a c) fr H Q=Sk (NJ lim (dest.map (b+·)) (.field1 a c) (ev fr) (OE b mask H)) fun v H'=>Q v (OA b mask H H'):=OY rfl
theorem Npu {a b:Nat} {c:Operand}:oK E lim none none mask (.fieldN a b c) fr H Q=Sk (NJ lim none (.fieldN a b c) (ev fr) H) Q:=PH rfl
theorem Np5 {a c:Nat} {d:Operand}:oK E lim (some b) dest mask (.fieldN a c d) fr H Q=Sk (NJ lim (dest.map (b+·)) (.fieldN a c d) (ev fr) (OE b mask H)) fun v H'=>Q v (OA b mask H H'):=OY rfl
theorem Nid {b a:Nat} {c qi:Operand}:oK E lim none none mask (.idxAddrA b a c qi) fr H Q=Sk (NJ lim none (.idxAddrA b a c qi) (ev fr) H) Q:=PH rfl
theorem Nim {c a:Nat} {d qi:Operand}:oK E lim (some b) dest mask (.idxAddrA c a d qi) fr H Q=Sk (NJ lim (dest.map (b+·)) (.idxAddrA c a d qi) (ev fr) (OE b mask H)) fun v H'=>Q v (OA b mask H H'):=OY rfl
theorem Nxw {c b:Nat} {a:Bool} {d qi:Operand}:oK E lim none none mask (.idxA c b a d qi) fr H Q=Sk (NJ lim none (.idxA c b a d qi) (ev fr) H) Q:=PH rfl
theorem Nx2 {d c:Nat} {a:Bool} {e qi:Operand}:oK E lim (some b) dest mask (.idxA d c a e qi) fr H Q=Sk (NJ lim (dest.map (b+·)) (.idxA d c a e qi) (ev fr) (OE b mask H)) fun v H'=>Q v (OA b mask H H'):=OY rfl
theorem Npt {a qi:Operand}:oK E lim none none mask (.idxStr a qi) fr H Q=Sk (NJ lim none (.idxStr a qi) (ev fr) H) Q:=PH rfl
theorem Np4 {a qi:Operand}:oK E lim (some b) dest mask (.idxStr a qi) fr H Q=Sk (NJ lim (dest.map (b+·)) (.idxStr a qi) (ev fr) (OE b mask H)) fun v H'=>Q v (OA b mask H H'):=OY rfl
theorem Npo {a:Nat} {e:Operand} {c b d:Option Operand}:oK E lim none none mask (.sliceS a e c b d) fr H Q=Sk (NJ lim none (.sliceS a e c b d) (ev fr) H) Q:=PH rfl
theorem Npz {a:Nat} {f:Operand} {d c e:Option Operand}:oK E lim (some b) dest mask (.sliceS a f d c e) fr H Q=Sk (NJ lim (dest.map (b+·)) (.sliceS a f d c e) (ev fr) (OE b mask H)) fun v H'=>Q v (OA b mask H H'):=OY rfl
theorem Nh8 {c:Operand} {b a:Option Operand}:oK E lim none none mask (.sliceStr c b a) fr H Q=Sk (NJ lim none (.sliceStr c b a) (ev fr) H) Q:=PH rfl
theorem Nig {d:Operand} {c a:Option Operand}:oK E lim (some b) dest mask (.sliceStr d c a) fr H Q=Sk (NJ lim (dest.map (b+·)) (.sliceStr d c a) (ev fr) (OE b mask H)) fun v H'=>Q v (OA b mask H H'):=OY rfl
theorem Npr {a:Operand}:oK E lim none none mask (.lenStr a) fr H Q=Sk (NJ lim none (.lenStr a) (ev fr) H) Q:=PH rfl
theorem Np2 {a:Operand}:oK E lim (some b) dest mask (.lenStr a) fr H Q=Sk (NJ lim (dest.map (b+·)) (.lenStr a) (ev fr) (OE b mask H)) fun v H'=>Q v (OA b mask H H'):=OY rfl
theorem Nie {a:Operand}:oK E lim none none mask (.capSlice a) fr H Q=Sk (NJ lim none (.capSlice a) (ev fr) H) Q:=PH rfl
theorem Nin {a:Operand}:oK E lim (some b) dest mask (.capSlice a) fr H Q=Sk (NJ lim (dest.map (b+·)) (.capSlice a) (ev fr) (OE b mask H)) fun v H'=>Q v (OA b mask H H'):=OY rfl
theorem Nib {a:Operand}:oK E lim none none mask (.lenSlice a) fr H Q=Sk (NJ lim none (.lenSlice a) (ev fr) H) Q:=PH rfl
theorem Nij {a:Operand}:oK E lim (some b) dest mask (.lenSlice a) fr H Q=Sk (NJ lim (dest.map (b+·)) (.lenSlice a) (ev fr) (OE b mask H)) fun v H'=>Q v (OA b mask H H'):=OY rfl
theorem Nps {a:Operand}:oK E lim none none mask (.lenMap a) fr H Q=Sk (NJ lim none (.lenMap a) (ev fr) H) Q:=PH rfl
theorem Np3 {a:Operand}:oK E lim (some b) dest mask (.lenMap a) fr H Q=Sk (NJ lim (dest.map (b+·)) (.lenMap a) (ev fr) (OE b mask H)) fun v H'=>Q v (OA b mask H H'):=OY rfl
theorem Nxv {a:Nat}:oK E lim none none mask (.lenK a) fr H Q=Sk (NJ lim none (.lenK a) (ev fr) H) Q:=PH rfl
theorem Nx1 {a:Nat}:oK E lim (some b) dest mask (.lenK a) fr H Q=Sk (NJ lim (dest.map (b+·)) (.lenK a) (ev fr) (OE b mask H)) fun v H'=>Q v (OA b mask H H'):=OY rfl
theorem Npx {b a:Nat} {c:Bool} {d e:Operand}:oK E lim none none mask (.append b a c d e) fr H Q=Sk (NJ lim none (.append b a c d e) (ev fr) H) Q:=PH rfl
theorem Np8 {c a:Nat} {d:Bool} {e f:Operand}:oK E lim (some b) dest mask (.append c a d e f) fr H Q=Sk (NJ lim (dest.map (b+·)) (.append c a d e f) (ev fr) (OE b mask H)) fun v H'=>Q v (OA b mask H H'):=OY rfl
theorem Nk1 {b a:Nat} {c:Bool} {d e:Operand}:oK E lim none none mask (.append0 b a c d e) fr H Q=Sk (NJ lim none (.append0 b a c d e) (ev fr) H) Q:=PH rfl
theorem Nk7 {c a:Nat} {d:Bool} {e f:Operand}:oK E lim (some b) dest mask (.append0 c a d e f) fr H Q=Sk (NJ lim (dest.map (b+·)) (.append0 c a d e f) (ev fr) (OE b mask H)) fun v H'=>Q v (OA b mask H H'):=OY rfl
theorem Npp {a:Bool} {b:List Operand}:oK E lim none none mask (.minmax a b) fr H Q=Sk (NJ lim none (.minmax a b) (ev fr) H) Q:=PH rfl
theorem Np0 {a:Bool} {c:List Operand}:oK E lim (some b) dest mask (.minmax a c) fr H Q=Sk (NJ lim (dest.map (b+·)) (.minmax a c) (ev fr) (OE b mask H)) fun v H'=>Q v (OA b mask H H'):=OY rfl
theorem Nga {d a:Nat} {b:List Value} {e c:Operand}:oK E lim none none mask (.makeSlice d a b e c) fr H Q=Sk (NJ lim none (.makeSlice d a b e c) (ev fr) H) Q:=PH rfl
theorem Ngd {e a:Nat} {c:List Value} {f d:Operand}:oK E lim (some b) dest mask (.makeSlice e a c f d) fr H Q=Sk (NJ lim (dest.map (b+·)) (.makeSlice e a c f d) (ev fr) (OE b mask H)) fun v H'=>Q v (OA b mask H H'):=OY rfl
theorem Nkz {d a:Nat} {b:List Value} {e c:Operand}:oK E lim none none mask (.growNil d a b e c) fr H Q=Sk (NJ lim none (.growNil d a b e c) (ev fr) H) Q:=PH rfl
theorem Nk5 {e a:Nat} {c:List Value} {f d:Operand}:oK E lim (some b) dest mask (.growNil e a c f d) fr H Q=Sk (NJ lim (dest.map (b+·)) (.growNil e a c f d) (ev fr) (OE b mask H)) fun v H'=>Q v (OA b mask H H'):=OY rfl
theorem Nky {a:Option Operand}:oK E lim none none mask (.makeMap a) fr H Q=Sk (NJ lim none (.makeMap a) (ev fr) H) Q:=PH rfl
theorem Nk4 {a:Option Operand}:oK E lim (some b) dest mask (.makeMap a) fr H Q=Sk (NJ lim (dest.map (b+·)) (.makeMap a) (ev fr) (OE b mask H)) fun v H'=>Q v (OA b mask H H'):=OY rfl
theorem Npq {c:KK} {a:Value} {d:Bool} {e b:Operand}:oK E lim none none mask (.lookup c a d e b) fr H Q=Sk (NJ lim none (.lookup c a d e b) (ev fr) H) Q:=PH rfl
theorem Np1 {d:KK} {a:Value} {e:Bool} {f c:Operand}:oK E lim (some b) dest mask (.lookup d a e f c) fr H Q=Sk (NJ lim (dest.map (b+·)) (.lookup d a e f c) (ev fr) (OE b mask H)) fun v H'=>Q v (OA b mask H H'):=OY rfl
theorem Nf9 {b:KK} {c a d:Operand}:oK E lim none none mask (.mapUpdate b c a d) fr H Q=Sk (NJ lim none (.mapUpdate b c a d) (ev fr) H) Q:=PH rfl
theorem Ngc {c:KK} {d a e:Operand}:oK E lim (some b) dest mask (.mapUpdate c d a e) fr H Q=Sk (NJ lim (dest.map (b+·)) (.mapUpdate c d a e) (ev fr) (OE b mask H)) fun v H'=>Q v (OA b mask H H'):=OY rfl
theorem Ntd {b:List Value} {a:Operand}:oK E lim none none mask (.clear b a) fr H Q=Sk (NJ lim none (.clear b a) (ev fr) H) Q:=PH rfl
theorem Ntm {c:List Value} {a:Operand}:oK E lim (some b) dest mask (.clear c a) fr H Q=Sk (NJ lim (dest.map (b+·)) (.clear c a) (ev fr) (OE b mask H)) fun v H'=>Q v (OA b mask H H'):=OY rfl
theorem Npw {b:KK} {c a:Operand}:oK E lim none none mask (.delete b c a) fr H Q=Sk (NJ lim none (.delete b c a) (ev fr) H) Q:=PH rfl
theorem Np7 {c:KK} {d a:Operand}:oK E lim (some b) dest mask (.delete c d a) fr H Q=Sk (NJ lim (dest.map (b+·)) (.delete c d a) (ev fr) (OE b mask H)) fun v H'=>Q v (OA b mask H H'):=OY rfl
theorem Nia {c:FuncId} {b a:List Operand}:oK E lim none none mask (.makeFunc c b a) fr H Q=Sk (NJ lim none (.makeFunc c b a) (ev fr) H) Q:=PH rfl
theorem Nii {d:FuncId} {c a:List Operand}:oK E lim (some b) dest mask (.makeFunc d c a) fr H Q=Sk (NJ lim (dest.map (b+·)) (.makeFunc d c a) (ev fr) (OE b mask H)) fun v H'=>Q v (OA b mask H H'):=OY rfl
theorem Nk0 {qi:Nat} {a:Operand}:oK E lim none none mask (.extract qi a) fr H Q=Sk (NJ lim none (.extract qi a) (ev fr) H) Q:=PH rfl
theorem Nk6 {qi:Nat} {a:Operand}:oK E lim (some b) dest mask (.extract qi a) fr H Q=Sk (NJ lim (dest.map (b+·)) (.extract qi a) (ev fr) (OE b mask H)) fun v H'=>Q v (OA b mask H H'):=OY rfl
theorem Nkx {a:Operand}:oK E lim none none mask (.rowMark a) fr H Q=Sk (NJ lim none (.rowMark a) (ev fr) H) Q:=PH rfl
theorem Nk3 {a:Operand}:oK E lim (some b) dest mask (.rowMark a) fr H Q=Sk (NJ lim (dest.map (b+·)) (.rowMark a) (ev fr) (OE b mask H)) fun v H'=>Q v (OA b mask H H'):=OY rfl
theorem Ns8 {a:Operand}:oK E lim none none mask (.strId a) fr H Q=Sk (NJ lim none (.strId a) (ev fr) H) Q:=PH rfl
theorem Ntg {a:Operand}:oK E lim (some b) dest mask (.strId a) fr H Q=Sk (NJ lim (dest.map (b+·)) (.strId a) (ev fr) (OE b mask H)) fun v H'=>Q v (OA b mask H H'):=OY rfl
end
section
variable {E:Env} {af:AFunc} {lim:Nat} {K:List AItem} {fr:Nat->Value} {H:NB} {R:Value->NB->Prop}
theorem N2u {base g o dest mask l} {d:Nat} (hd:d<af.ntmps):PI E af lim (.ops base (⟨some d,g,o,dest,mask⟩::l)::K) fr H R =
  gK af.ntmps fr g (oK E lim base dest mask o fr H fun v H'=>PI E af lim (.ops base l::K) (upd fr d v) H' R) (PI E af lim (.ops base l::K) (upd fr d undef) H R):=N0v (d:=some d) (by simp [dOk,hd])
theorem N2v {base g o dest mask l}:PI E af lim (.ops base (⟨none,g,o,dest,mask⟩::l)::K) fr H R =
  gK af.ntmps fr g (oK E lim base dest mask o fr H fun v H'=>PI E af lim (.ops base l::K) fr H' R) (PI E af lim (.ops base l::K) fr H R):=N0v (d:=none) rfl
end
section
variable {E:Env} {af:AFunc} {lim:Nat} {K:List AItem} {fr:Nat->Value} {H:NB} {R:Value->NB->Prop}
end
section
variable {p q:Prop} {c:Prop} [Decidable c]
theorem Nsb:Uf (.bool true) true p q=p:=by simp [Uf]
theorem Nse:Uf (.bool false) false p q=p:=by simp [Uf]
theorem Nsc:Uf (.bool true) false p q=q:=by simp [Uf]
theorem Nsd:Uf (.bool false) true p q=q:=by simp [Uf]
theorem Nwi:Nc0 (.bool true) p q=p:=rfl
theorem Nwj:Nc0 (.bool false) p q=q:=rfl
theorem Yu {b:Bool} (h1:c->Uf (.bool true) b p q) (h2:¬c->Uf (.bool false) b p q):Uf (.bool (decide c)) b p q:=by
 by_cases h:c
 ·rw [No h];exact h1 h
 ·rw [Nx h];exact h2 h
theorem Y8 (h1:c->p) (h2:¬c->q):Nc0 (.bool (decide c)) p q:=by
 by_cases h:c
 ·rw [No h];exact h1 h
 ·rw [Nx h];exact h2 h
theorem Yv {t b:Bool} (h1:t=true->Uf (.bool true) b p q) (h2:t=false->Uf (.bool false) b p q):Uf (.bool t) b p q:=by
 cases t
 ·exact h2 rfl
 ·exact h1 rfl
theorem Y9 {t:Bool} (h1:t=true->p) (h2:t=false->q):Nc0 (.bool t) p q:=by
 cases t
 ·exact h2 rfl
 ·exact h1 rfl
theorem Nyh {a b:Int}:(a == b)=decide (a=b):=by by_cases h:a=b<;>simp [h]
theorem Nyg {a b:Int}:(a != b)=decide (¬a=b):=by by_cases h:a=b<;>simp [h,bne]
theorem Nx6:(!decide c)=decide (¬c):=by by_cases h:c<;>simp [h]
end
def Wi (off size:Nat) (v:Value) (c:List Value):Option (List Value):=
 if v.cells.toList.length=size/\off+size<=c.length/\NA v=true then some (RF c off v.cells.toList) else none
def Njd (ρ:Operand->Value) (rest:List (Nat×Nat×Operand)) (r:Option (List Value)):Option (List Value):=match r with | some c=>Sg ρ rest c | none=>none
theorem Ncs {ρ:Operand->Value} {off size:Nat} {x:Operand} {rest:List (Nat×Nat×Operand)} {c:List Value}:Sg ρ ((off,size,x)::rest) c=Njd ρ rest (Wi off size (ρ x) c):=by
 unfold Njd Wi
 simp only [Sg]
 split<;>rfl
theorem Nd5 {ρ:Operand->Value} {c:List Value}:Sg ρ [] c=some c:=rfl
theorem Nlz {ρ:Operand->Value} {rest:List (Nat×Nat×Operand)} {c:List Value}:Njd ρ rest (some c)=Sg ρ rest c:=rfl
theorem Njc {ρ:Operand->Value} {rest:List (Nat×Nat×Operand)} {r r':Option (List Value)} (h:r=r'):Njd ρ rest r=Njd ρ rest r':=by rw [h]
theorem Njb {off size:Nat} {v v':Value} {c:List Value} (h:v=v'):Wi off size v c=Wi off size v' c:=by rw [h]
attribute [congr] Njc Njb
theorem VD {off:Nat} {v:Value} {c:List Value} (b:v.oneCell'=true) (a:NA v=true) (h:off<c.length):Wi off 1 v c=some (c.set off v):=by
 cases v<;>first | (simp [Value.oneCell'] at b;done) | (simp [NA] at a;done) | (unfold Wi;rw [Nk ⟨by simp [Value.cells],h,a⟩];rfl)
theorem Nq0 {off:Nat} {k:IntKind} {n:Int} {c:List Value} (h:off<c.length):Wi off 1 (.int k n) c=some (c.set off (.int k n)):=VD rfl rfl h
theorem Nly {off:Nat} {b:Bool} {c:List Value} (h:off<c.length):Wi off 1 (.bool b) c=some (c.set off (.bool b)):=VD rfl rfl h
theorem Nq1 {off n:Nat} {l c:List Value} (h:l.length=n/\off+n<=c.length):Wi off n (.agg l.toArray) c=some (RF c off l):=by
 unfold Wi
 rw [Nk ⟨by simpa [Value.cells] using h.1,h.2,rfl⟩]
 rfl
theorem Nke {c:List Value} {o:Nat}:RF c o []=c:=rfl
theorem Us {c:List Value} {o:Nat} {v:Value} {vs:List Value}:RF c o (v::vs)=RF (c.set o v) (o+1) vs:=rfl
section
variable {fr:Nat->Value} {H:NB}
theorem Nrg {a:Array Value}:(Value.agg a).cells=a:=rfl
theorem Nrf {k:IntKind} {n:Int}:(Value.int k n).cells=#[.int k n]:=rfl
theorem Nma {b:Bool}:(Value.bool b).cells=#[.bool b]:=rfl
theorem Nw5 {l:List Value}:l.toArray.toList=l:=rfl
theorem Nw4 {l:List Value}:l.toArray.size=l.length:=rfl
def Nwh:Option Value->Option (List Value)->Option (List Value)
 | some v,some vs=>some (v::vs)
 | _,_=>none
def Nv5:Option (List Value)->Option Value
 | some [v]=>some v
 | some vs=>some (.tuple vs.toArray)
 | none=>none
theorem Nkj:UK fr H []=some []:=rfl
theorem Nhz {r:ARes} {a:List ARes}:UK fr H (r::a)=Nwh (NG fr H r) (UK fr H a):=by
 unfold Nwh
 simp only [UK]
 cases NG fr H r<;>cases UK fr H a<;>rfl
theorem Nki {a:List ARes}:result fr H a=Nv5 (UK fr H a):=by
 unfold Nv5 result
 cases UK fr H a<;>rfl
theorem Nl4 {v:Value} {vs:List Value}:Nwh (some v) (some vs)=some (v::vs):=rfl
theorem Nv3 {v:Value}:Nv5 (some [v])=some v:=rfl
theorem Nqw {v u:Value} {vs:List Value}:Nv5 (some (v::u::vs))=some (.tuple (v::u::vs).toArray):=rfl
theorem Nv4:Nv5 (some [])=some (.tuple #[]):=rfl
end
def Vh (e:Nat) (x i:Value) (H:NB):Option (Value×NB):=match x,i with
    | .slice (some p) len _,.int _ n=>if 0<=n/\n<(len:Int) then some (.pointer (some (p.add (n.toNat*e))),H) else none
    | _,_=>none
theorem Njz {lim:Nat} {dest:Option Nat} {e:Nat} {x i:Operand} {ρ:Operand->Value} {H:NB}:NJ lim dest (.idxAddrS e x i) ρ H=Vh e (ρ x) (ρ i) H:=by
 simp only [NJ];unfold Vh;rfl
theorem ZN {e n len c:Nat} {p:Addr} {k:IntKind} {H:NB} (h:n<len):Vh e (.slice (some p) len c) (.int k (n:Int)) H=some (.pointer (some (p.add (n*e))),H):=by
 unfold Vh
 simp only
 rw [Nk ⟨by omega,by omega⟩]
 simp
section
variable {E:Env} {lim b:Nat} {dest:Option Nat} {mask:List Nat} {fr:Nat->Value} {H:NB} {Q:Value->NB->Prop}
theorem Nic {e:Nat} {x i:Operand}:oK E lim none none mask (.idxAddrS e x i) fr H Q=Sk (Vh e (ev fr x) (ev fr i) H) Q:=by rw [PH rfl,Njz]
theorem Nik {e:Nat} {x i:Operand}:oK E lim (some b) dest mask (.idxAddrS e x i) fr H Q=Sk (Vh e (ev fr x) (ev fr i) (OE b mask H)) fun v H'=>Q v (OA b mask H H'):=by rw [OY rfl,Njz]
end
theorem addr_add {b o n:Nat}:(⟨b,o,none⟩:Addr).add n=⟨b,o+n,none⟩:=by
 simp only [Addr.add]
 first | rfl | (split<;>simp_all)
theorem NS {n:Nat} (h:n+1<2 ^ 63):IntKind.i64.wrap ((n:Int)+1)=((n+1:Nat):Int):=by
 have h1:((n:Int)+1) % 2 ^ 64=(n:Int)+1:=Rv (by omega) (by omega)
 simp only [IntKind.wrap,IntKind.bits,IntKind.signed,h1]
 rw [Nf (by simp;omega)]
 omega
section
variable {b i:Nat} {l:List Nat} {H H0:NB}
theorem Nqb:OE b (i::l) H=OE b l (H.set (b+i) .dead):=rfl
theorem Nhf:OA b (i::l) H0 H=OA b l H0 (H.set (b+i) (NC H0 (b+i))):=rfl
theorem Nxt:List.replicate 1 Blk.dead=[.dead]:=rfl
theorem Ns5:List.replicate 0 Blk.dead=[]:=rfl
theorem Nxs:List.replicate 2 Blk.dead=[.dead,.dead]:=rfl
theorem Npn:List.replicate 3 Blk.dead=[.dead,.dead,.dead]:=rfl
end
end Go.AM


namespace Go.AM
section
variable {α:Type}
def gt [Inhabited α] (l:List α) (i:Nat):α:=l.getD i default
theorem OJ [Inhabited α] {l:List α} {i:Nat} (h:i<l.length):gt l i=l[i]:=by simp [gt,Nc,Np h]
theorem ZP [Inhabited α] {x:α} {l:List α}:gt (x::l) 0=x:=rfl
theorem OT [Inhabited α] {x:α} {l:List α} {i:Nat}:gt (x::l) (i+1)=gt l i:=by simp [gt]
theorem Tk [Inhabited α] {l r:List α} {i:Nat} (h:i<l.length):gt (l++r) i=gt l i:=by
 simp [gt,Nc,Od h]
theorem Ww [Inhabited α] {l r:List α} {i:Nat}:gt (l++r) (l.length+i)=gt r i:=by
 unfold gt
 rw [Nc,Nc,Og (by omega),R8]
theorem PK [Inhabited α] {l:List α} {i:Nat} (h:i<l.length):gt l i∈l:=by rw [OJ h];exact Rm h
def addrOf (p:Option Addr):Addr:=p.getD ⟨0,0,none⟩
def SX (p:Option Addr) (e i:Nat):Addr:=(addrOf p).add (i*e)
def Sl (H:NB) (enc:α->List Value) (e:Nat) (p:Option Addr) (l:List α):Prop:=
 match p with
 | none=>l=[]
 | some a=>a.spot=none/\(l≠[]->∃ro c,NC H a.block=.cells ro c/\a.off+l.length*e<=c.length/\(c.drop a.off).take (l.length*e)=l.flatMap enc)
theorem ND {H:NB} {i:Nat} {ro:Bool} {c:List Value} (h:NC H i=.cells ro c):i<H.length:=by
 rcases Om i H.length with h1 | h1
 ·exact h1
 ·unfold NC at h
  rw [Nc,N8 h1] at h
  cases h
def cellsOf:Blk->List Value | .cells _ c=>c | _=>[]
def isCells:Blk->Bool | .cells _ _=>true | _=>false
theorem WB {ro:Bool} {c:List Value}:cellsOf (.cells ro c)=c:=rfl
theorem Wv {ro:Bool} {c:List Value}:isCells (.cells ro c)=true:=id rfl
theorem Sl.app {H:NB} {enc:α->List Value} {e:Nat} {p:Option Addr} {l:List α} (h:Sl H enc e p l) (X:NB):Sl (H++X) enc e p l:=by
 cases p with
 | none=>exact h
 | some a=>
   refine ⟨h.1,fun hn=>?_⟩
   obtain ⟨ro,c,h2,b⟩:=h.2 hn
   exact ⟨ro,c,by rw [NK (ND h2)];exact h2,b⟩
theorem Sl.sim {H G:NB} {enc:α->List Value} {e:Nat} {p:Option Addr} {l:List α} (h:Sl H enc e p l) (f:∀b ro c,NC H b=.cells ro c->NC G b=.cells ro c):Sl G enc e p l:=by
 cases p with
 | none=>exact h
 | some a=>
   refine ⟨h.1,fun hn=>?_⟩
   obtain ⟨ro,c,h2,d⟩:=h.2 hn
   exact ⟨ro,c,f _ _ _ h2,d⟩
theorem QW {enc:α->List Value} {e:Nat} (he:∀x,(enc x).length=e) (l:List α):(l.flatMap enc).length=l.length*e:=by
 induction l with
 | nil=>simp
 | cons x l ih=>simp [ih,he,Qg,Qk]
theorem MG {enc:α->List Value} {e:Nat} (he:∀x,(enc x).length=e):∀(l:List α) (i:Nat),i<l.length->[Inhabited α]->((l.flatMap enc).drop (i*e)).take e=enc (gt l i)
 | [],i,h,_=>by simp at h
 | x::l,0,_,_=>by
   rw [N2,Q0,Po,Rd (by rw [he];exact Ng _),Oo (by rw [he];exact Ng _)]
   rfl
 | x::l,i+1,h,_=>by
   rw [N2,List.drop_append,Qt (by rw [he,Qg];omega),Ob,he,show (i+1)*e-e=i*e by rw [Qg];omega]
   have:=MG he l i (by simpa using h)
   rw [this,OT]
variable [Inhabited α] {H:NB} {enc:α->List Value} {e:Nat} {p:Option Addr} {l:List α}
theorem Sl.loadCells (h:Sl H enc e p l) (he:∀x,(enc x).length=e) {i:Nat} (hi:i<l.length):AM.loadCells H (SX p e i) e=some (enc (gt l i)):=by
 cases p with
 | none=>simp only [Sl] at h;subst h;simp at hi
 | some a=>
   obtain ⟨b,o,s⟩:=a
   obtain ⟨ro,c,h2,g,d⟩:=h.2 (by rintro rfl;simp at hi)
   have h1:=h.1
   simp only at h1 h2 d g;subst h1
   have j:i*e+e<=l.length*e:=by
    have:=Pj e (Q1 hi)
    rw [P7] at this;exact this
   have f:=MG he l i hi
   rw [<-d,List.drop_take,R9,List.drop_drop] at f
   simp only [SX,addrOf,Pq,addr_add,AM.loadCells,h2]
   rw [Nk (by omega),<-f,Pa (by omega)]
theorem Sl.loadCell (h:Sl H enc e p l) (he:∀x,(enc x).length=e) {i j:Nat} (hi:i<l.length) (k:j<e):AM.loadCell H ((SX p e i).add j)=(enc (gt l i))[j]?:=by
 have d:=h.loadCells he hi
 cases p with
 | none=>simp only [Sl] at h;subst h;simp at hi
 | some a=>
   obtain ⟨b,o,s⟩:=a
   obtain ⟨ro,c,h2,g,f⟩:=h.2 (by rintro rfl;simp at hi)
   have h1:=h.1
   simp only at h1 h2 f g;subst h1
   simp only [SX,addrOf,Pq,addr_add,AM.loadCells,h2] at d
   split at d
   ·simp only [Option.some.injEq] at d
    rw [<-d]
    simp only [SX,addrOf,Pq,addr_add,AM.loadCell,h2,Q4,Q5,Nk k,P4]
   ·cases d
theorem Sl.loadCell0 (h:Sl H enc e p l) (he:∀x,(enc x).length=e) {i:Nat} (hi:i<l.length) (a:0<e):AM.loadCell H (SX p e i)=(enc (gt l i))[0]?:=by
 rw [<-h.loadCell he hi a]
 congr 1
omit [Inhabited α] in
theorem Sl.idx (h:Sl H enc e p l) {i c:Nat} {k:IntKind} {H1:NB} (hi:i<l.length):Vh e (.slice p l.length c) (.int k (i:Int)) H1=some (.pointer (some (SX p e i)),H1):=by
 cases p with
 | none=>simp only [Sl] at h;subst h;simp at hi
 | some a=>exact ZN hi
end
theorem Uu {X:NB} {j:Nat} {b:Blk} (h:j<X.length):NC (X.set j b) j=b:=by
 unfold NC;rw [Nc,Q8 h];rfl
theorem OQ {X:NB} {i j:Nat} {b:Blk} (h:i≠j):NC (X.set j b) i=NC X i:=by
 unfold NC;rw [Nc,Nc,Qi (Ne.symm h)]
theorem Nqu {α:Type} [Inhabited α] {l:List α} {i:Nat} {w:α->Bool} (h:i<l.length):(l.drop i).find? w=if w (gt l i)=true then some (gt l i) else (l.drop (i+1)).find? w:=by
 rw [Pk h,List.find?_cons,OJ h]
 split<;>simp_all
theorem Nqo {e len c:Nat} {p:Addr} {k:IntKind} {H:NB} (h:0<len):Vh e (.slice (some p) len c) (.int k 0) H=some (.pointer (some (p.add 0)),H):=by
 have:=ZN (e:=e) (n:=0) (len:=len) (c:=c) (p:=p) (k:=k) (H:=H) h
 rw [Q0] at this
 exact this
theorem Nqk {k:IntKind} {n:Int}:TW (.int k) (.int k n)=true:=by simp [TW]
theorem Nqj {b:ByteArray}:TW .str (.string b)=true:=id rfl
theorem Ni9 {v:Value} {i:Nat}:findKey v [] i=some none:=rfl
theorem Yd {k:IntKind} {a b:Int} {v:Value} {es:List (Value×Value)} {i:Nat}:findKey (.int k a) ((.int k b,v)::es) i=if a=b then some (some (i,v)) else findKey (.int k a) es (i+1):=by
 simp only [findKey,VI,if_true]
 by_cases h:a=b
 ·simp [h]
 ·have e:(a == b)=false:=by simpa using h
  simp [h,e]
theorem Nay {H:NB} {r:Nat}:mapEntries H (.map (some r))=(match NC H r with | .map es=>some es | _=>none):=rfl
theorem Naz {H:NB}:mapEntries H (.map none)=some []:=rfl
theorem Ncr {α:Type} {k:IntKind} {a:Int} {f:α->Int} {g:α->Value}:∀{l:List α} {i:Nat},(∀x∈l,f x≠a)->findKey (.int k a) (l.map fun x=>(.int k (f x),g x)) i=some none
 | [],_,_=>rfl
 | x::l,i,h=>by
   rw [Pi,Yd,Nf (fun e=>h x (by simp) e.symm)]
   exact Ncr fun y b=>h y (by simp [b])
theorem Nam {α:Type} {k:IntKind} {a:Int} {f:α->Int} {g:α->Value} {v:Value}:∀{l:List α} {i:Nat},(∃x∈l,f x=a)->(∀x∈l,f x=a->g x=v)->∃j,findKey (.int k a) (l.map fun x=>(.int k (f x),g x)) i=some (some (j,v))
 | [],_,h,_=>by obtain ⟨x,c,_⟩:=h;simp at c
 | x::l,i,h,hv=>by
   rw [Pi,Yd]
   by_cases e:a=f x
   ·exact ⟨i,by rw [Nk e,hv x (by simp) e.symm]⟩
   ·rw [Nf e]
    refine Nam ?_ fun y hy=>hv y (by simp [hy])
    obtain ⟨y,hy,b⟩:=h
    rcases Nu.1 hy with rfl | hy
    ·exact absurd b.symm e
    ·exact ⟨y,hy,b⟩
def NZ (H G:NB):Prop:=∃X,G=H++X
section
variable {H G:NB}
theorem NZ.refl:NZ H H:=⟨[],by simp⟩
theorem NZ.app (h:NZ H G) {X:NB}:NZ H (G++X):=by
 obtain ⟨Y,rfl⟩:=h
 exact ⟨Y++X,by simp⟩
theorem NZ.trans {K:NB} (h:NZ H G) (k:NZ G K):NZ H K:=by
 obtain ⟨Y,rfl⟩:=k
 exact h.app
theorem NZ.len (h:NZ H G):H.length<=G.length:=by
 obtain ⟨Y,rfl⟩:=h
 simp
theorem NZ.sl {α:Type} {enc:α->List Value} {e:Nat} {p:Option Addr} {l:List α} (h:NZ H G) (a:Sl H enc e p l):Sl G enc e p l:=by
 obtain ⟨Y,rfl⟩:=h
 exact a.app Y
theorem NZ.cells (h:NZ H G) {b:Nat} {ro:Bool} {c:List Value} (a:NC H b=.cells ro c):NC G b=.cells ro c:=by
 obtain ⟨Y,rfl⟩:=h
 rw [NK (ND a)];exact a
end
section
variable {E:Env} {af:AFunc} {lim:Nat} {K:List AItem} {fr:Nat->Value} {H:NB} {R:Value->NB->Prop} {b:ACode}
theorem NM {S:Type} (m:S->Nat) (I:S->(Nat->Value)->NB->Prop) (s:S) (d:I s fr H)
  (step:∀s fr H,I s fr H->(∀a fr' H',I a fr' H'->m a<m s->PI E af lim (.inLoop b::K) fr' H' R)->PI E af lim (.code b::.inLoop b::K) fr H R) :
  PI E af lim (.code (.loop b)::K) fr H R:=by
 rw [Ym,<-UU]
 have key:∀n s fr H,m s<=n->I s fr H->PI E af lim (.inLoop b::K) fr H R:=by
  intro n
  induction n with
  | zero=>
    intro s fr H e hi
    rw [UU]
    exact step s fr H hi fun a fr' H' _ hl=>absurd hl (by omega)
  | succ n ih=>
    intro s fr H e hi
    rw [UU]
    exact step s fr H hi fun a fr' H' c hl=>ih a fr' H' (by omega) c
 exact key _ s fr H (Ng _) d
theorem NR.mono {mp:Bool} {g:FuncId} {as:List Value} {Q Q':Value->NB->Prop} (h:NR E mp lim g as H Q) (a:∀v H',Q v H'->Q' v H'):NR E mp lim g as H Q':=by
 obtain ⟨n,L,h1,h2⟩:=h
 exact ⟨n,L,h1,h2.mono a⟩
theorem PI.mono {k:List AItem} {R':Value->NB->Prop} (h:PI E af lim k fr H R) (a:∀v H',R v H'->R' v H'):PI E af lim k fr H R':=by
 obtain ⟨n,L,h1,h2⟩:=h
 exact ⟨n,L,h1,h2.mono a⟩
theorem NI {k:List AItem} (h:PI E af lim k fr (H++[]) R):PI E af lim k fr H R:=by rwa [Na] at h
theorem Yn {k k':List AItem} {id:Nat} (h:RQ id k=RQ id k'):PI E af lim (.code (.exit id)::k) fr H R=PI E af lim (.code (.exit id)::k') fr H R:=by
 cases a:RQ id k' with
 | some K'=>rw [Ndw (h.trans a),Ndw a]
 | none=>
   have key:∀{k:List AItem},RQ id k=none->¬PI E af lim (.code (.exit id)::k) fr H R:=by
    rintro k a ⟨n,L,b,_⟩
    cases n with
    | zero=>simp [OX] at b
    | succ n=>rw [OX.eq_def] at b;simp only [a] at b;cases b
   exact propext ⟨fun q=>absurd q (key (h.trans a)),fun q=>absurd q (key a)⟩
theorem Nee {id:Nat} {c:ACode}:PI E af lim (.code (.exit id)::.code c::K) fr H R=PI E af lim (.code (.exit id)::K) fr H R:=Yn (by simp [RQ])
theorem Nec {id:Nat} {c:ACode}:PI E af lim (.code (.exit id)::.inLoop c::K) fr H R=PI E af lim (.code (.exit id)::K) fr H R:=Yn (by simp [RQ])
theorem Nds {id a:Nat} (h:a≠id):PI E af lim (.code (.exit id)::.inBlock a::K) fr H R=PI E af lim (.code (.exit id)::K) fr H R:=Yn (by simp [RQ,h])
theorem Ned {id:Nat}:PI E af lim (.code (.exit id)::.inBlock id::K) fr H R=PI E af lim K fr H R:=Ndw (by simp [RQ])
def Nzu (r:Option NB) (f:NB->Prop) (_:Bx f:=⟨⟩):Prop:=match r with | some H'=>f H' | none=>False
theorem Nkd {f:NB->Prop}:Nzu (some H) f=f H:=rfl
theorem Nj0:PI E af lim (.code .retM::K) fr H R=Nzu (shut lim (marks K) H) fun H'=>Sk ((result fr H' af.results).map (·,H')) R:=by
 rw [Tp (r:=match shut lim (marks K) H with | some H'=>(result fr H' af.results).map (·,H') | none=>none) fun n=>by rw [OX.eq_def];simp only;cases shut lim (marks K) H<;>rfl]
 cases shut lim (marks K) H<;>rfl
theorem Nqc:marks []=[]:=rfl
theorem Nle {c:ACode}:marks (.code c::K)=marks K:=rfl
theorem Nld {c:ACode}:marks (.inLoop c::K)=marks K:=rfl
theorem Niv {id:Nat}:marks (.inBlock id::K)=marks K:=rfl
theorem Nlc {i:Nat}:marks (.mark i::K)=marks K++[i]:=rfl
theorem Nso:shut lim [] H=some H:=rfl
theorem No1 {i:Nat} {l:List Nat} (h:NC H i=.dfr) (hl:lim<=i):shut lim (i::l) H=shut lim l (H.set i .dead):=by simp only [shut,h,Nk hl]
def Nl0 (i:Nat) (j:Option ACode) (H:NB) (b:Blk):Option (Value×NB):=match b with | .loop x=>some (.bool j.isNone,H.set i (.loop { x with st:=if j.isNone then 0 else 2,pend:=j })) | _=>none
theorem Nyz {i st N:Nat} {p:Option ACode} {g:Nat->Value} {ps:List Nat} {a b:ACode}:Nl0 i none H (.loop ⟨st,p,g,N,ps,a,b⟩)=some (.bool true,H.set i (.loop ⟨0,none,g,N,ps,a,b⟩)):=rfl
theorem Nwb {i st N:Nat} {p:Option ACode} {g:Nat->Value} {ps:List Nat} {a b c:ACode}:Nl0 i (some c) H (.loop ⟨st,p,g,N,ps,a,b⟩)=some (.bool false,H.set i (.loop ⟨2,some c,g,N,ps,a,b⟩)):=rfl
theorem Xl {i:Nat} {j:Option ACode}:endRound i j H=Nl0 i j H (NC H i):=by unfold endRound Nl0;cases NC H i<;>rfl
theorem Nr3 {i:Nat} (hl:lim<=i):PI E af lim (.round i::K) fr H R=Sk (Nl0 i none H (NC H i)) R:=by
 rw [<-Xl];exact Tp fun n=>by rw [OX.eq_def];simp only [Nk hl]
def Nzh (b:Blk) (f:LoopB->Prop) (_:Bx f:=⟨⟩):Prop:=match b with | .loop x=>if x.st=0 then f x else False | _=>False
theorem Nrl {N:Nat} {p:Option ACode} {g:Nat->Value} {ps:List Nat} {a b:ACode} {f:LoopB->Prop}:Nzh (.loop ⟨0,p,g,N,ps,a,b⟩) f=f ⟨0,p,g,N,ps,a,b⟩:=by simp [Nzh]
theorem Nr8 {i:Nat} (hl:lim<=i):PI E af lim (.begin i::K) fr H R=Nzh (NC H i) fun x=>PI E af lim K fr (H.set i (.loop { x with st:=1 })) R:=by
 unfold Nzh
 have a:(∀n,OX E (n+1) af lim (.begin i::K) fr H=none)->PI E af lim (.begin i::K) fr H R=False:=fun h=>by rw [Tp (r:=none) fun n=>(h n).trans rfl];rfl
 cases hb:NC H i with
 | loop x=>
   simp only
   split
   ·rename_i b
    exact PI.succ fun n=>by rw [OX.eq_def];simp only [hb,Nk (And.intro b hl)]
   ·rename_i b
    exact a fun n=>by rw [OX.eq_def];simp only [hb,b,false_and,if_false]
 | _=>exact a fun n=>by rw [OX.eq_def];simp only [hb]
theorem Nr4 {k:List AItem} (h:∀n,OX E (n+1) af lim k fr H=none):PI E af lim k fr H R=False:=by rw [Tp (r:=none) fun n=>(h n).trans rfl];rfl
theorem Yl {k k':List AItem} (h:roundOf k=roundOf k'):PI E af lim (.code .retR::k) fr H R=PI E af lim (.code .retR::k') fr H R:=by
 rw [Tp (r:=match roundOf k with | some i=>if lim<=i then endRound i (some .retM) H else none | none=>none) fun n=>by rw [OX.eq_def];simp only;cases roundOf k with | none=>rfl | some i=>simp only;split<;>rfl,
  Tp (k:=.code .retR::k') (r:=match roundOf k' with | some i=>if lim<=i then endRound i (some .retM) H else none | none=>none) fun n=>by rw [OX.eq_def];simp only;cases roundOf k' with | none=>rfl | some i=>simp only;split<;>rfl,h]
theorem Neb {c:ACode}:PI E af lim (.code .retR::.code c::K) fr H R=PI E af lim (.code .retR::K) fr H R:=Yl rfl
theorem Nea {c:ACode}:PI E af lim (.code .retR::.inLoop c::K) fr H R=PI E af lim (.code .retR::K) fr H R:=Yl rfl
theorem Ndr {id:Nat}:PI E af lim (.code .retR::.inBlock id::K) fr H R=PI E af lim (.code .retR::K) fr H R:=Yl rfl
theorem Ndq {i:Nat} (hl:lim<=i):PI E af lim (.code .retR::.round i::K) fr H R=Sk (Nl0 i (some .retM) H (NC H i)) R:=by
 rw [<-Xl];exact Tp fun n=>by rw [OX.eq_def];simp only [roundOf,Nk hl]
theorem Xz {k k':List AItem} {id:Nat} (h:RQ id k=RQ id k') (h2:roundOf k=roundOf k'):PI E af lim (.code (.exitR id)::k) fr H R=PI E af lim (.code (.exitR id)::k') fr H R:=by
 cases hk:RQ id k' with
 | some K'=>
   exact (PI.succ (k1:=K') (fr1:=fr) (H1:=H) fun n=>by rw [OX.eq_def];simp only [h.trans hk]).trans (PI.succ fun n=>by rw [OX.eq_def];simp only [hk]).symm
 | none=>
   rw [Tp (r:=match roundOf k with | some i=>if lim<=i then endRound i (some (.exit id)) H else none | none=>none) fun n=>by rw [OX.eq_def];simp only [h.trans hk];cases roundOf k with | none=>rfl | some i=>simp only;split<;>rfl,
    Tp (k:=.code (.exitR id)::k') (r:=match roundOf k' with | some i=>if lim<=i then endRound i (some (.exit id)) H else none | none=>none) fun n=>by rw [OX.eq_def];simp only [hk];cases roundOf k' with | none=>rfl | some i=>simp only;split<;>rfl,h2]
theorem Ndv {id:Nat} {c:ACode}:PI E af lim (.code (.exitR id)::.code c::K) fr H R=PI E af lim (.code (.exitR id)::K) fr H R:=Xz (by simp [RQ]) rfl
theorem Ndt {id:Nat} {c:ACode}:PI E af lim (.code (.exitR id)::.inLoop c::K) fr H R=PI E af lim (.code (.exitR id)::K) fr H R:=Xz (by simp [RQ]) rfl
theorem Na2 {id a:Nat} (h:a≠id):PI E af lim (.code (.exitR id)::.inBlock a::K) fr H R=PI E af lim (.code (.exitR id)::K) fr H R:=Xz (by simp [RQ,h]) rfl
theorem Ndu {id:Nat}:PI E af lim (.code (.exitR id)::.inBlock id::K) fr H R=PI E af lim K fr H R:=PI.succ fun n=>by rw [OX.eq_def];simp [RQ]
theorem Na1 {id i:Nat} (hl:lim<=i):PI E af lim (.code (.exitR id)::.round i::[]) fr H R=Sk (Nl0 i (some (.exit id)) H (NC H i)) R:=by
 rw [<-Xl];exact Tp fun n=>by rw [OX.eq_def];simp only [RQ,roundOf,Nk hl]
def Ne3 (x:LoopB):List AItem:=match x.pend with | none=>[] | some c=>[.code c]
theorem Nks {st N:Nat} {g:Nat->Value} {ps:List Nat} {a b:ACode}:Ne3 ⟨st,none,g,N,ps,a,b⟩=[]:=rfl
theorem Nkr {st N:Nat} {g:Nat->Value} {ps:List Nat} {a b c:ACode}:Ne3 ⟨st,some c,g,N,ps,a,b⟩=[.code c]:=rfl
def N2b (c:Option ((FuncId ⊕ Nat)×List Value)) (f:FuncId->List Value->Prop) (_:Bx f:=⟨⟩):Prop:=match c with | some (.inl g,as)=>f g as | _=>False
theorem Nrh {g:FuncId} {as:List Value} {f:FuncId->List Value->Prop}:N2b (some (.inl g,as)) f=f g as:=rfl
def Ncu (b:Blk) (f:LoopB->Prop) (_:Bx f:=⟨⟩):Prop:=match b with | .loop x=>if x.st=1 then False else f x | _=>False
theorem Ngx {N:Nat} {p:Option ACode} {g:Nat->Value} {ps:List Nat} {a b:ACode} {f:LoopB->Prop}:Ncu (.loop ⟨0,p,g,N,ps,a,b⟩) f=f ⟨0,p,g,N,ps,a,b⟩:=by simp [Ncu]
theorem N14 {N:Nat} {p:Option ACode} {g:Nat->Value} {ps:List Nat} {a b:ACode} {f:LoopB->Prop}:Ncu (.loop ⟨2,p,g,N,ps,a,b⟩) f=f ⟨2,p,g,N,ps,a,b⟩:=by simp [Ncu]
theorem Nq3 {x:LoopB} {f:LoopB->Prop} (h:x.st≠1):Ncu (.loop x) f=f x:=by simp [Ncu,h]
theorem Zi {b b':Blk} {f:LoopB->Prop} (h:b=b'):Ncu b f=Ncu b' f:=by rw [h]
theorem Wl {f:Operand} {ps:List Nat} {a b:ACode} {g:FuncId} {as:List Value} (hc:NE (ev fr f) [.func (.yield (H.length+1)) #[] #[]] = some (.inl g,as)) :
  PI E af lim (.code (.rangeF f ps a b)::K) fr H R=NR E false lim g as (H++[.dfr,.loop ⟨0,none,fr,af.ntmps,ps,a,b⟩]) fun _ U=>
   Ncu (NC U (H.length+1)) fun x=>PI E af lim (Ne3 x++(K++[.mark H.length])) fr (U.set (H.length+1) .dead) R:=by
 let F:=fun (n:Nat) (r:Value×NB)=>match NC r.2 (H.length+1) with
  | .loop x=>if x.st=1 then none else OX E n af lim ((match x.pend with | none=>[] | some c=>[AItem.code c])++(K++[AItem.mark H.length])) fr (r.2.set (H.length+1) .dead)
  | _=>none
 have O:∀n r s,F n r=some s->∃x,NC r.2 (H.length+1)=.loop x/\x.st≠1/\OX E n af lim (Ne3 x++(K++[.mark H.length])) fr (r.2.set (H.length+1) .dead)=some s:=fun n r s h=>by
  simp only [F] at h
  split at h
  case h_2=>cases h
  rename_i x B
  split at h
  ·cases h
  rename_i k
  exact ⟨x,B,k,h⟩
 have v:∀n r x s,NC r.2 (H.length+1)=.loop x->x.st≠1->OX E n af lim (Ne3 x++(K++[.mark H.length])) fr (r.2.set (H.length+1) .dead)=some s->F n r=some s:=fun n r x s B k h=>by
  simp only [F,B,Nf k]
  exact h
 have D:∀n r s,F n r=some s->s≠[]:=fun n r s h=>by
  obtain ⟨x,_,_,h⟩:=O n r s h
  exact YB E _ _ _ _ _ _ _ h
 have d:∀{n m r s},n<=m->F n r=some s->F m r=some s:=fun {n m r s} P h=>by
  obtain ⟨x,h1,h2,M⟩:=O n r s h
  exact v m r x s h1 h2 (V8 E P M)
 have p:∀n,OX E (n+1) af lim (.code (.rangeF f ps a b)::K) fr H=match QP E (OX E n) false lim (.inl g) as (H++[.dfr,.loop ⟨0,none,fr,af.ntmps,ps,a,b⟩]) with
   | some L=>TY (F n) L
   | none=>none:=fun n=>by rw [OX.eq_def];simp only [hc];rfl
 apply propext
 constructor
 ·rintro ⟨n,L,o,hr⟩
  cases n with
  | zero=>simp [OX] at o
  | succ n=>
  rw [p] at o
  split at o
  case h_2=>cases o
  rename_i L0 i
  refine ⟨n,L0,i,fun hd=>?_,fun r hr'=>?_⟩
  ·obtain ⟨y,J⟩:=hr.1 hd
   exact YA o (fun x _ s j=>D n x s j) J
  ·obtain ⟨s,j,G⟩:=UR o r hr'
   obtain ⟨x,h1,h2,M⟩:=O n r s j
   rw [h1,Nq3 h2]
   refine ⟨n,s,M,fun hd=>?_,fun q Q=>hr.2 q (G q Q)⟩
   obtain ⟨y,J⟩:=hr.1 hd
   obtain ⟨z,T⟩:=YA o (fun x _ s j=>D n x s j) J
   subst T
   rw [Ni] at hr'
   subst hr'
   simp only [TY,j,Option.some.injEq,Na] at o
   exact ⟨y,o.trans J⟩
 ·rintro ⟨n,L0,i,hd,h2⟩
  have A:∃N,∀r∈L0,∃s,F N r=some s/\MO E.dt s R:=by
   clear hd i
   induction L0 with
   | nil=>exact ⟨0,fun r hr=>by cases hr⟩
   | cons y L0 ih=>
     obtain ⟨N,w⟩:=ih fun r hr=>h2 r (by simp [hr])
     have u:=h2 y (by simp)
     simp only [Ncu] at u
     split at u
     case h_2=>exact u.elim
     rename_i x B
     split at u
     ·exact u.elim
     rename_i k
     obtain ⟨m,s,o,hr⟩:=u
     refine ⟨max N m,fun r hr'=>?_⟩
     rcases Nu.1 hr' with rfl | hr'
     ·exact ⟨s,d (Py N m) (v m r x s B k o),hr⟩
     ·obtain ⟨V,g1,W⟩:=w r hr'
      exact ⟨V,d (Qq N m) g1,W⟩
  obtain ⟨N,w⟩:=A
  have e:QP E (OX E (max n N)) false lim (.inl g) as (H++[.dfr,.loop ⟨0,none,fr,af.ntmps,ps,a,b⟩])=some L0:=VS E (Qq n N) _ _ _ _ _ _ i
  obtain ⟨L,I⟩:=Xv (f:=F (max n N)) (l:=L0) fun r hr=>by
   obtain ⟨s,j,_⟩:=w r hr
   exact ⟨s,d (Py n N) j⟩
  refine ⟨max n N+1,L,by rw [p,e];exact I,fun C=>?_,fun q Q=>?_⟩
  ·obtain ⟨y,rfl⟩:=hd C
   obtain ⟨s,j,ho⟩:=w y (by simp)
   have t:=d (Py n N) j
   simp only [TY,t,Option.some.injEq,Na] at I
   obtain ⟨z,T⟩:=ho.1 C
   exact ⟨z,by rw [<-I,T]⟩
  ·obtain ⟨r,hr,s,j,S⟩:=UT I q Q
   obtain ⟨V,t,ho⟩:=w r hr
   have:=d (Py n N) t
   rw [j] at this
   cases this
   exact ho.2 q S
theorem Nmi {f:Operand} {ps:List Nat} {a b:ACode} :
  PI E af lim (.code (.rangeF f ps a b)::K) fr H R=N2b (NE (ev fr f) [.func (.yield (H.length+1)) #[] #[]]) fun g as=>NR E false lim g as (H++[.dfr,.loop ⟨0,none,fr,af.ntmps,ps,a,b⟩]) fun _ c=>
   Ncu (NC c (H.length+1)) fun x=>PI E af lim (Ne3 x++(K++[.mark H.length])) fr (c.set (H.length+1) .dead) R:=by
 unfold N2b
 split
 ·rename_i g as hc;exact Wl hc
 ·rename_i hc
  refine Nr4 fun n=>?_
  rw [OX.eq_def]
  simp only
theorem YS.det {mp:Bool} {i:Nat} {as:List Value} {Q:Value->NB->Prop} {n:Nat} {v:Value} {H':NB} (h:QR E n mp lim (.inr i) as H=some [(v,H')]):YS E mp lim i as H Q=Q v H':=by
 rw [<-Nfr,VU.all h,UB]
theorem YS.mono {mp:Bool} {i:Nat} {as:List Value} {Q Q':Value->NB->Prop} (h:YS E mp lim i as H Q) (a:∀v H',Q v H'->Q' v H'):YS E mp lim i as H Q':=by
 obtain ⟨n,L,h1,h2⟩:=h
 exact ⟨n,L,h1,h2.mono a⟩
theorem MP {i:Nat} {as:List Value} {Q:Value->NB->Prop} {x:LoopB} (b:NC H i=.loop x) (hl:lim<=i) (a:as.length=x.params.length) (hp:(x.params.all (·<x.N))=true) :
  YS E false lim i as H Q=PI E ⟨x.N,[],.skip⟩ lim [.code x.assign,.begin i,.code x.body,.round i] (Td x.fr x.params as) H Q:=by
 unfold YS PI QR QP
 simp only [b,Nk (And.intro hl (And.intro a hp)),Oe,if_false]
theorem NQ {c c':ACode} (h:c=c'):PI E af lim (.code c::K) fr H R=PI E af lim (.code c'::K) fr H R:=by rw [h]
theorem Ngo {b o:Nat} {s:Option Nat}:AM.loadCell H ⟨b,o,s⟩=(match NC H b with | .cells _ c=>c[o]? | _=>none):=rfl
theorem QM {b o n:Nat} {s:Option Nat}:AM.loadCells H ⟨b,o,s⟩ n=(match NC H b with | .cells _ c=>if o+n<=c.length then some ((c.drop o).take n) else none | _=>none):=rfl
theorem Ur {b o:Nat} {s:Option Nat} {vs:List Value}:AM.storeAt lim H ⟨b,o,s⟩ vs=(match NC H b with | .cells false c=>if lim<=b/\o+vs.length<=c.length then some (H.set b (.cells false (RF c o vs))) else none | _=>none):=rfl
theorem NR.eq {mp:Bool} {g:FuncId} {as:List Value} {Q:Value->NB->Prop} {v:Value} {H':NB} (h:NR E mp lim g as H fun v' H1=>v'=v/\H1=H'):NR E mp lim g as H Q=Q v H':=by
 obtain ⟨n,L,h1,h2⟩:=h
 rw [<-MQ,VU.all h1]
 have c:=Nw7 E h1
 obtain ⟨x,d⟩:=Se _ c
 have e:∀r∈L,r=(v,H'):=fun r hr=>by
  obtain ⟨a,b⟩:=h2.2 r hr
  exact R4 a b
 apply propext
 constructor
 ·intro h
  have:=h.2 x d
  rw [e x d] at this
  exact this
 ·exact fun f=>⟨h2.1,fun r hr=>by rw [e r hr];exact f⟩
end
section
variable {p q:Prop} {t b:Bool}
theorem Nhc:Uf undef b p q=q:=by unfold undef Uf;rfl
theorem Nok:Uf (.bool (!t)) b p q=Uf (.bool t) (!b) p q:=by cases t<;>cases b<;>simp [Uf]
theorem Nq7:Nc0 (.bool (!t)) p q=Nc0 (.bool t) q p:=by cases t<;>rfl
end
theorem Ni3 {a b:Nat}:((a:Int)<(b:Int))=(a<b):=by simp
theorem Ni4 {a b:Nat}:((a:Int)<=(b:Int))=(a<=b):=by simp
theorem Ni2 {a:Nat}:((0:Int)<(a:Int))=(0<a):=by simp
theorem NY {n:Int} (h1:-2 ^ 63<=n) (h2:n<2 ^ 63):IntKind.i64.wrap n=n:=by
 by_cases h:0<=n
 ·have h1:n % 2 ^ 64=n:=Rv h (by omega)
  simp only [IntKind.wrap,IntKind.bits,IntKind.signed,h1]
  rw [Nf (by simp;omega)]
 ·have h1:n % 2 ^ 64=n+2 ^ 64:=by
   rw [<-Int.add_emod_right,Rv (by omega) (by omega)]
  simp only [IntKind.wrap,IntKind.bits,IntKind.signed,h1]
  rw [Nk (by simp;omega)]
  omega
theorem QY {n:Nat} (h:0<n) (h2:n<2 ^ 63):IntKind.i64.wrap ((n:Int)-1)=((n-1:Nat):Int):=by rw [NY (by omega) (by omega)];omega
theorem Nlu {H:NB} {b:Nat} (h:isCells (NC H b)=true):∃ro,NC H b=.cells ro (cellsOf (NC H b)):=by
 cases hb:NC H b with
 | cells ro c=>exact ⟨ro,by simp [cellsOf]⟩
 | _=>rw [hb] at h;simp [isCells] at h
theorem Sl.lit {α:Type} {H:NB} {enc:α->List Value} {e b:Nat} {l:List α} (he:∀x,(enc x).length=e) (h:isCells (NC H b)=true) (hc:cellsOf (NC H b)=l.flatMap enc):Sl H enc e (some ⟨b,0,none⟩) l:=by
 obtain ⟨ro,h1⟩:=Nlu h
 refine ⟨rfl,fun _=>⟨ro,_,h1, ?_, ?_⟩⟩
 ·rw [hc,QW he];simp
 ·rw [hc,Po,Oo (by rw [QW he];exact Ng _)]
theorem Njj {a:Option Addr} {n c:Nat}:(Value.slice a n c).cells=#[.slice a n c]:=rfl
theorem Nrd {a:Option Addr}:(Value.pointer a).cells=#[.pointer a]:=rfl
theorem Nrc {s:ByteArray}:(Value.string s).cells=#[.string s]:=rfl
theorem N55 {v:Value}:(#[v]:Array Value).toList=[v]:=rfl
theorem N20 {v:Value}:(#[v]:Array Value).size=1:=rfl
theorem Nre {a:Option Nat}:(Value.map a).cells=#[.map a]:=rfl
theorem cells_func {f:Fn} {a b:Array Value}:(Value.func f a b).cells=#[.func f a b]:=rfl
theorem Nja {off:Nat} {a:Option Addr} {n m:Nat} {c:List Value} (h:off<c.length):Wi off 1 (.slice a n m) c=some (c.set off (.slice a n m)):=VD rfl rfl h
theorem Nqy {off:Nat} {a:Option Addr} {c:List Value} (h:off<c.length):Wi off 1 (.pointer a) c=some (c.set off (.pointer a)):=VD rfl rfl h
theorem Nqx {off:Nat} {a:ByteArray} {c:List Value} (h:off<c.length):Wi off 1 (.string a) c=some (c.set off (.string a)):=VD rfl rfl h
theorem Nqz {off:Nat} {a:Option Nat} {c:List Value} (h:off<c.length):Wi off 1 (.map a) c=some (c.set off (.map a)):=VD rfl rfl h
theorem N3g:List.replicate 4 Blk.dead=[.dead,.dead,.dead,.dead]:=rfl
theorem N3f:List.replicate 5 Blk.dead=[.dead,.dead,.dead,.dead,.dead]:=rfl
theorem N3e:List.replicate 6 Blk.dead=[.dead,.dead,.dead,.dead,.dead,.dead]:=rfl
theorem N3d:List.replicate 7 Blk.dead=[.dead,.dead,.dead,.dead,.dead,.dead,.dead]:=rfl
theorem N3c:List.replicate 8 Blk.dead=[.dead,.dead,.dead,.dead,.dead,.dead,.dead,.dead]:=rfl
theorem N3b:List.replicate 9 Blk.dead=[.dead,.dead,.dead,.dead,.dead,.dead,.dead,.dead,.dead]:=rfl
theorem N1b:List.replicate 10 Blk.dead=[.dead,.dead,.dead,.dead,.dead,.dead,.dead,.dead,.dead,.dead]:=rfl
theorem N1a:List.replicate 11 Blk.dead=[.dead,.dead,.dead,.dead,.dead,.dead,.dead,.dead,.dead,.dead,.dead]:=rfl
theorem N09:List.replicate 12 Blk.dead=[.dead,.dead,.dead,.dead,.dead,.dead,.dead,.dead,.dead,.dead,.dead,.dead]:=rfl
theorem Njl:bytesOf []=some []:=rfl
theorem Ng7 {n:Int} {l:List Value}:bytesOf (.int .u8 n::l)=(bytesOf l).map (UInt8.ofNat n.toNat::·):=by
 simp only [bytesOf];cases bytesOf l<;>rfl
theorem Ni5 {a b:Nat}:((a:Int)=(b:Int))=(a=b):=propext Int.ofNat_inj
theorem Nht {v:Value} {c vs:List Value}:∀{o:Nat},RF (v::c) (o+1) vs=v::RF c o vs:=by
 induction vs generalizing c with
 | nil=>intro o;rfl
 | cons u vs ih=>intro o;rw [Us,Us,Ph];exact ih
theorem OH {l:List Value} {n:Nat} (h:l.length=n):l.take n=l:=by subst h;exact Of
theorem Nip {n:Nat}:((n:Int)<0)=False:=by simp
theorem NL {c vs:List Value} (h:vs.length=c.length):RF c 0 vs=vs:=by
 have key:∀(vs c pre:List Value),vs.length=c.length->RF (pre++c) pre.length vs=pre++vs:=by
  intro vs
  induction vs with
  | nil=>intro c pre h;have:c=[]:=List.length_eq_zero_iff.1 h.symm;subst this;rfl
  | cons v vs ih=>
    intro c pre h
    match c,h with
    | x::c,h=>
      rw [Us]
      have e1:(pre++x::c).set pre.length v=(pre++[v])++c:=by simp
      rw [e1]
      have:=ih c (pre++[v]) (by simpa using h)
      rw [Nb] at this
      simp only [Nj,Nl,N0] at this
      rw [this];simp
 exact key vs c [] h
def N2s (v:Value) (H:NB):Option (Value×NB):=match v with
 | .slice none n _=>if n=0 then some (.string .empty,H) else none
 | .slice (some a) n _=>match loadCells H a n with
   | some cs=>match bytesOf cs with
     | some bs=>some (.string ⟨bs.toArray⟩,H)
     | none=>none
   | none=>none
 | _=>none
theorem Nrn {a:Addr} {n c:Nat} {H:NB}:N2s (.slice (some a) n c) H=(match AM.loadCells H a n with
  | some cs=>match bytesOf cs with
    | some bs=>some (.string ⟨bs.toArray⟩,H)
    | none=>none
  | none=>none):=rfl
theorem Nxy {E:Env} {lim:Nat} {mask:List Nat} {fr:Nat->Value} {H:NB} {Q:Value->NB->Prop} {a:Operand}:oK E lim none none mask (.b2s a) fr H Q=Sk (N2s (ev fr a) H) Q:=PH rfl
theorem Nx4 {E:Env} {lim b:Nat} {dest:Option Nat} {mask:List Nat} {fr:Nat->Value} {H:NB} {Q:Value->NB->Prop} {a:Operand}:oK E lim (some b) dest mask (.b2s a) fr H Q=Sk (N2s (ev fr a) (OE b mask H)) fun v H'=>Q v (OA b mask H H'):=OY rfl
def unV:Operand->Value
 | .const v=>v
 | _=>undef
def Ua (e:Nat) (v:Value) (lo hi mx:Option Value):Option Value:=Uj e unV v (lo.map .const) (hi.map .const) (mx.map .const)
theorem Nru {e:Nat} {ρ:Operand->Value} {v:Value} {lo hi mx:Option Operand}:Uj e ρ v lo hi mx=Ua e v (lo.map ρ) (hi.map ρ) (mx.map ρ):=by
 unfold Ua Uj
 cases v with
 | slice a n c=>cases lo<;>cases hi<;>cases mx<;>rfl
 | _=>rfl
def copyV (lim esz:Nat) (d x:Value) (H:NB):Option (Value×NB):=match d,lenOf x with
    | .slice base dl _,some sl=>match TC H esz (min sl dl) x with
      | some cs=>match base with
        | some a=>if min sl dl=0 then some (.int .i64 0,H) else (storeAt lim H a cs).map (.int .i64 (min sl dl:Nat),·)
        | none=>if dl=0 then some (.int .i64 0,H) else none
      | none=>none
    | _,_=>none
theorem Ntc {E:Env} {lim e:Nat} {mask:List Nat} {fr:Nat->Value} {H:NB} {Q:Value->NB->Prop} {d x:Operand}:oK E lim none none mask (.copy e d x) fr H Q=Sk (copyV lim e (ev fr d) (ev fr x) H) Q:=PH rfl
theorem Ntl {E:Env} {lim b e:Nat} {dest:Option Nat} {mask:List Nat} {fr:Nat->Value} {H:NB} {Q:Value->NB->Prop} {d x:Operand}:oK E lim (some b) dest mask (.copy e d x) fr H Q=Sk (copyV lim e (ev fr d) (ev fr x) (OE b mask H)) fun v H'=>Q v (OA b mask H H'):=OY rfl
def Na5 (n e:Nat) (v:Value) (lo hi mx:Option Value):Option Value:=match v with
 | .pointer (some a)=>match bounds unV n n (lo.map .const) (hi.map .const) (mx.map .const) with
   | some (l,h,m)=>if m<2 ^ 62 then some (.slice (some (if m=l then a else a.add (l*e))) (h-l) (m-l)) else none
   | none=>none
 | _=>none
theorem Nhs {lim n e:Nat} {dest:Option Nat} {ρ:Operand->Value} {x:Operand} {lo hi mx:Option Operand} {H:NB}:NJ lim dest (.sliceA n e x lo hi mx) ρ H=(Na5 n e (ρ x) (lo.map ρ) (hi.map ρ) (mx.map ρ)).map (·,H):=by
 have b:bounds unV n n ((lo.map ρ).map .const) ((hi.map ρ).map .const) ((mx.map ρ).map .const)=bounds ρ n n lo hi mx:=by
  cases lo<;>cases hi<;>cases mx<;>rfl
 simp only [NJ,Na5,b]
 cases ρ x with
 | pointer a=>
   cases a with
   | none=>rfl
   | some a=>
     simp only
     cases bounds ρ n n lo hi mx with
     | none=>rfl
     | some p=>
       obtain ⟨l,h,m⟩:=p
       simp only
       split<;>rfl
 | _=>rfl
theorem Nkw {E:Env} {lim n e:Nat} {mask:List Nat} {fr:Nat->Value} {H:NB} {Q:Value->NB->Prop} {x:Operand} {lo hi mx:Option Operand}:oK E lim none none mask (.sliceA n e x lo hi mx) fr H Q=Sk ((Na5 n e (ev fr x) (lo.map (ev fr)) (hi.map (ev fr)) (mx.map (ev fr))).map (·,H)) Q:=by
 rw [PH rfl,Nhs]
theorem Nk2 {E:Env} {lim b n e:Nat} {dest:Option Nat} {mask:List Nat} {fr:Nat->Value} {H:NB} {Q:Value->NB->Prop} {x:Operand} {lo hi mx:Option Operand}:oK E lim (some b) dest mask (.sliceA n e x lo hi mx) fr H Q=Sk ((Na5 n e (ev fr x) (lo.map (ev fr)) (hi.map (ev fr)) (mx.map (ev fr))).map (·,OE b mask H)) fun v H'=>Q v (OA b mask H H'):=by
 rw [OY rfl,Nhs]
def VQ (lim:Nat) (dest:Option Nat) (esz bytes:Nat) (str:Bool) (s x:Value) (H:NB):Option (Value×NB):=match s with
    | .slice none n c=>OW lim dest esz bytes str (.slice none n c) x H
    | .slice (some a) n c=>if c=loose esz\/c=n then OW lim dest esz bytes str (.slice (some a) n c) x H else none
    | _=>none
theorem Nif {E:Env} {lim e b:Nat} {str:Bool} {mask:List Nat} {fr:Nat->Value} {H:NB} {Q:Value->NB->Prop} {s x:Operand}:oK E lim none none mask (.appendL e b str s x) fr H Q=Sk (VQ lim none e b str (ev fr s) (ev fr x) H) Q:=PH rfl
theorem Nio {E:Env} {lim e b' b:Nat} {str:Bool} {dest:Option Nat} {mask:List Nat} {fr:Nat->Value} {H:NB} {Q:Value->NB->Prop} {s x:Operand}:oK E lim (some b) dest mask (.appendL e b' str s x) fr H Q=Sk (VQ lim (dest.map (b+·)) e b' str (ev fr s) (ev fr x) (OE b mask H)) fun v H'=>Q v (OA b mask H H'):=OY rfl
theorem Nd9 {lim e b n c:Nat} {str:Bool} {dest:Option Nat} {x:Value} {H:NB}:VQ lim dest e b str (.slice none n c) x H=OW lim dest e b str (.slice none n c) x H:=rfl
theorem YQ {lim e b n c:Nat} {str:Bool} {dest:Option Nat} {x:Value} {H:NB} {a:Addr}:VQ lim dest e b str (.slice (some a) n c) x H=if c=loose e\/c=n then OW lim dest e b str (.slice (some a) n c) x H else none:=rfl
section
variable {α:Type}
def DH (enc:α->List Value) (G:NB) (B:Nat) (d:Array α):NB:=G.set B (.cells false (d.toList.flatMap enc))
variable [Inhabited α] {enc:α->List Value} {G X:NB} {B e i:Nat} {d:Array α} {p:Option Addr} {lim:Nat}
omit [Inhabited α] in
theorem WG:(DH enc G B d).length=G.length:=by simp [DH]
omit [Inhabited α] in
theorem Ndy (hB:B<G.length):NC (DH enc G B d++X) B=.cells false (d.toList.flatMap enc):=by
 rw [NK (by rw [WG];exact hB)]
 exact Uu hB
omit [Inhabited α] in
theorem N38 (hp:p=some ⟨B,0,none⟩) (hB:B<G.length) (he:∀x,(enc x).length=e):Sl (DH enc G B d++X) enc e p d.toList:=by
 subst hp
 refine Sl.lit he ?_ ?_
 ·rw [Ndy hB];rfl
 ·rw [Ndy hB];rfl
theorem N11 {α:Type} [Inhabited α] (d:Array α) (i:Nat):gt d.toList i=d[i]!:=by
 unfold gt
 rw [Nc,Array.getElem?_toList,getElem!_def]
 cases d[i]?<;>rfl
theorem Yt (hp:p=some ⟨B,0,none⟩) (hB:B<G.length) (he:∀x,(enc x).length=e) (hi:i<d.size):AM.loadCells (DH enc G B d++X) (SX p e i) e=some (enc d[i]!):=by
 rw [(N38 hp hB he).loadCells he (by simpa using hi),N11]
omit [Inhabited α] in
theorem Ni8 (he:∀x,(enc x).length=e) (y:α):∀(l:List α) (i:Nat),i<l.length->RF (l.flatMap enc) (i*e) (enc y)=(l.set i y).flatMap enc:=by
 have key:∀(vs a b c:List Value) ,vs.length=b.length->RF (a++b++c) a.length vs=a++vs++c:=by
  intro vs
  induction vs with
  | nil=>intro a b c h;simp at h;have:b=[]:=List.length_eq_zero_iff.1 h.symm;subst this;rfl
  | cons v vs ih=>
    intro a b c h
    match b,h with
    | x::b,h=>
      rw [Us]
      have e1:(a++x::b++c).set a.length v=(a++[v])++b++c:=by simp
      rw [e1]
      have:=ih (a++[v]) b c (by simpa using h)
      rw [Nb] at this
      simp only [Nj,Nl,N0] at this
      rw [this];simp
 intro l i hi
 have e1:l.flatMap enc=(l.take i).flatMap enc++enc l[i]++(l.drop (i+1)).flatMap enc:=by
  have e0:l=l.take i++l[i]::l.drop (i+1):=by rw [<-Pk hi,P8]
  have:=Rw (List.flatMap enc) e0
  rw [Pc,N2] at this
  rw [this,Nr]
 have e2:(l.set i y).flatMap enc=(l.take i).flatMap enc++enc y++(l.drop (i+1)).flatMap enc:=by
  rw [List.set_eq_take_append_cons_drop,Nk hi];simp
 have e3:i*e=((l.take i).flatMap enc).length:=by rw [QW he,N6,Pa (by omega)]
 rw [e1,e2,e3]
 exact key _ _ _ _ (by rw [he,he])
omit [Inhabited α] in
theorem Yr (hp:p=some ⟨B,0,none⟩) (hB:B<G.length) (hl:lim<=B) (he:∀x,(enc x).length=e) (hi:i<d.size) {y:α}:AM.storeAt lim (DH enc G B d++X) (SX p e i) (enc y)=some (DH enc G B (d.setIfInBounds i y)++X):=by
 subst hp
 have h1:i*e+e<=d.size*e:=by
  have:=Pj e (Q1 hi)
  rw [P7] at this;exact this
 simp only [SX,addrOf,Pq,addr_add,Ur,Ndy hB,N0]
 rw [Nk ⟨hl,by rw [he,QW he];simpa using h1⟩,Ni8 he y _ _ (by simpa using hi)]
 congr 1
 rw [P9 _ _ (by rw [WG];exact hB)]
 simp only [DH,List.set_set]
 congr 3
 simp
omit [Inhabited α] in
theorem VT {n c:Nat} {k:IntKind} {H:NB} (hp:p=some ⟨B,0,none⟩) (hi:i<n):Vh e (.slice p n c) (.int k (i:Int)) H=some (.pointer (some (SX p e i)),H):=by
 subst hp
 exact ZN hi
end
def SB:=And.intro @ne_eq.{1} (And.intro @if_true.{1} (And.intro @if_false.{1} (And.intro @dite_true.{1} (And.intro @dite_false.{1} (And.intro @Nzk (And.intro @Nsb (And.intro @Nse (And.intro @Nsc (And.intro @Nsd (And.intro @Nwi (And.intro @Nwj (And.intro @Nyh (And.intro @Nyg (And.intro @Nx6 (And.intro @Ncs (And.intro @Nd5 (And.intro @Nlz (And.intro @Nq0 (And.intro @Nly (And.intro @Nq1 (And.intro @Nke (And.intro @Us (And.intro @Nw9 (And.intro @Nee (And.intro @Nec (And.intro @Nds (And.intro @Ned (And.intro @Nw8 (And.intro @YD (And.intro @Nj1 (And.intro @Nxa (And.intro @N2u (And.intro @N2v (And.intro @false_and (And.intro @and_false (And.intro @Wn (And.intro @Nzl (And.intro @decide_true (And.intro @Nyp (And.intro @Nyo (And.intro @N1c (And.intro @Nxu (And.intro @N1f (And.intro @N1d (And.intro @N3i (And.intro @Nxx (And.intro @Ntf (And.intro @N1e (And.intro @Nte (And.intro @Nd3 (And.intro @Ntb (And.intro @Nta (And.intro @Ns9 (And.intro @Nh9 (And.intro @Ngb (And.intro @Npv (And.intro @Npu (And.intro @Nid (And.intro @Nic (And.intro @Nxw (And.intro @Npt (And.intro @Npo (And.intro @Nh8 (And.intro @Npr (And.intro @Nib (And.intro @Nps (And.intro @Nxv (And.intro @Npx (And.intro @Nk1 (And.intro @Npp (And.intro @Nga (And.intro @Nky (And.intro @Npq (And.intro @Nf9 (And.intro @Npw (And.intro @Ntd (And.intro @Nia (And.intro @Nk0 (And.intro @Ns8 (And.intro @Nkx (And.intro @N1g (And.intro @Nx0 (And.intro @N1j (And.intro @N1h (And.intro @N3k (And.intro @Nx3 (And.intro @Nto (And.intro @N1i (And.intro @Ntn (And.intro @Nd4 (And.intro @Ntk (And.intro @Ntj (And.intro @Nti (And.intro @Nth (And.intro @Npy (And.intro @Nih (And.intro @Nge (And.intro @Np6 (And.intro @Np5 (And.intro @Nim (And.intro @Nik (And.intro @Nx2 (And.intro @Np4 (And.intro @Npz (And.intro @Nig (And.intro @Np2 (And.intro @Nij (And.intro @Np3 (And.intro @Nx1 (And.intro @Np8 (And.intro @Nk7 (And.intro @Np0 (And.intro @Ngd (And.intro @Nk4 (And.intro @Np1 (And.intro @Ngc (And.intro @Np7 (And.intro @Ntm (And.intro @Nii (And.intro @Nk6 (And.intro @Ntg (And.intro @Nk3 (And.intro @Nx5 (And.intro @Ntr (And.intro @Ntq (And.intro @Ntp (And.intro @Nie (And.intro @Nin (And.intro @Nkz (And.intro @Nk5 (And.intro @Nri (And.intro @Ns0 (And.intro @Nv1 (And.intro @Nqq (And.intro @Nyr (And.intro @Nlh (And.intro @Nlg (And.intro @Nlr (And.intro @Ngs (And.intro @Nls (And.intro @Npf (And.intro @Nxq (And.intro @Nx9 (And.intro @Nt3 (And.intro @N1p (And.intro @MQ (And.intro @Nfr (And.intro @Nj0 (And.intro @Nqc (And.intro @Nle (And.intro @Nld (And.intro @Niv (And.intro @Nlc (And.intro @Nso (And.intro @No1 (And.intro @Nkd (And.intro @Nr3 (And.intro @Nr8 (And.intro @Nrl (And.intro @Nyz (And.intro @Nwb (And.intro @Neb (And.intro @Nea (And.intro @Ndr (And.intro @Ndq (And.intro @Ndv (And.intro @Ndt (And.intro @Na2 (And.intro @Ndu (And.intro @Na1 (And.intro @Nrh (And.intro @Ngx (And.intro @N14 (And.intro @Nks (And.intro @Nkr (And.intro @Nmi (And.intro @List.map_cons.{0,0} (And.intro @List.map_nil.{0,0} (And.intro @Option.map_none.{0,0} (And.intro @Ntz (And.intro @Nqb (And.intro @Nhf (And.intro @Nxt (And.intro @Ns5 (And.intro @Nxs (And.intro @Npn (And.intro @Nr5 (And.intro @P4 (And.intro @WX (And.intro @Sw (And.intro @N12 (And.intro @Nv6 (And.intro @Nys (And.intro @upd_same (And.intro @upd_ne (And.intro @not_false_eq_true (And.intro @Nh7 (And.intro @Option.map_some.{0,0} (And.intro @List.getD_cons_zero.{0} (And.intro @List.getD_cons_succ.{0} (And.intro @decide_false (And.intro @Oe (And.intro @not_true_eq_false (And.intro @and_true (And.intro @Rt (And.intro @OL (And.intro @NN (And.intro @NK (And.intro @Nmx (And.intro @Nb0 (And.intro @List.set_cons_zero.{0} (And.intro @List.set_cons_succ.{0} (And.intro @List.append_assoc.{0} (And.intro @List.cons_append.{0} (And.intro @List.nil_append.{0} (And.intro @Ur (And.intro @Ngo (And.intro @QM (And.intro @ZN (And.intro @List.length_cons.{0} (And.intro @List.length_nil.{0} (And.intro @addr_add (And.intro @List.drop_zero.{0} (And.intro @List.drop_succ_cons.{0} (And.intro @List.take_succ_cons.{0} (And.intro @List.take_zero.{0} (And.intro @Ng (And.intro @Nat.le_add_right (And.intro @N0 (And.intro @Oj (And.intro @Nki (And.intro @Nkj (And.intro @Nhz (And.intro @Nl4 (And.intro @Nv3 (And.intro @Nqw (And.intro @Nv4 (And.intro @Nrg (And.intro @Nrf (And.intro @Nma (And.intro @Nw5 (And.intro @Nw4 (And.intro @Option.some.injEq.{0} (And.intro @Prod.mk.injEq.{0,0} (And.intro @List.length_append.{0} (And.intro @List.getElem?_cons_zero.{0} (And.intro @List.getElem?_cons_succ.{0} (And.intro @R6 (And.intro @and_self (And.intro @Ni3 (And.intro @Ni4 (And.intro @Nok (And.intro @Nq7 (And.intro @Rp (And.intro @Bool.not_false (And.intro @Nat.le_add_right_of_le (And.intro @Ni2 (And.intro @Nhc (And.intro @Nqk (And.intro @Nqj (And.intro @Ni9 (And.intro @Yd (And.intro @Nay (And.intro @Naz (And.intro @Qu (And.intro @Nqo (And.intro @Nzm (And.intro @Njj (And.intro @Nrd (And.intro @Nrc (And.intro @Nre (And.intro @cells_func (And.intro @N55 (And.intro @N20 (And.intro @Nja (And.intro @Nqy (And.intro @Nqx (And.intro @Nqz (And.intro @Nip (And.intro @NL (And.intro @Option.isNone_none.{0} (And.intro @Option.isNone_some.{0} (And.intro @O0 (And.intro @OH (And.intro @Nht (And.intro @N3g (And.intro @N3f (And.intro @N3e (And.intro @N3d (And.intro @N3c (And.intro @N3b (And.intro @N1b (And.intro @N1a (And.intro @N09 (And.intro @Ng7 (And.intro @Njl (And.intro @Ni5 (And.intro @Nxy (And.intro @Nx4 (And.intro @Nrn (And.intro @Nru (And.intro @Ntc (And.intro @Ntl (And.intro @Nkw (And.intro @Nk2 (And.intro @Nif (And.intro @Nio (And.intro @Nd9 (@YQ)))))))))))))))))))))))))))))))))))))))))))))))))))))))))))))))))))))))))))))))))))))))))))))))))))))))))))))))))))))))))))))))))))))))))))))))))))))))))))))))))))))))))))))))))))))))))))))))))))))))))))))))))))))))))))))))))))))))))))))))))))))))))))))))))))))))))))))))))))))))))))))))))))))))))))))))))))))
theorem Nqr {args:List Value} {t:Nat}:NH args t=args.getD t undef:=id rfl
def FB:=And.intro @upd_same (And.intro @upd_ne (And.intro @ne_eq.{1} (And.intro @not_false_eq_true (And.intro @Nqr (And.intro @List.getD_cons_zero.{0} @List.getD_cons_succ.{0})))))
section
variable {G G' K:NB} {R:Nat} {b:Blk}
structure Mut (G G':NB) (R:Nat):Prop where
 len:G'.length=G.length
 other:∀j,j≠R->NC G' j=NC G j
theorem Mut.ext {H:NB} (h:Mut G G' R) (a:NZ H G) (b:H.length<=R):NZ H G':=by
 obtain ⟨Y,rfl⟩:=a
 refine ⟨G'.drop H.length, ?_⟩
 apply Qo
 ·have:=h.len;simp at this⊢;omega
 intro i h1 h2
 have hl:=h.len
 simp at hl
 by_cases hi:i<H.length
 ·rw [Rk hi]
  have:=h.other i (by omega)
  unfold NC at this
  rw [Nc,Nc,Np h1,Np (by simp;omega)] at this
  simp only [Pq] at this
  rw [this,Rk hi]
 ·rw [Sd (by omega),Rj]
  congr 1
  omega
theorem Mut.cells (h:Mut G G' R) {j:Nat} {ro:Bool} {c:List Value} (b:NC G j=.cells ro c) (a:j≠R):NC G' j=.cells ro c:=by rw [h.other j a];exact b
theorem Mut.alive (h:Mut G G' R) {j:Nat} {B:Blk} (b:NC G j=B) (a:j≠R):NC G' j=B:=by rw [h.other j a];exact b
theorem Mut.sl {α:Type} {enc:α->List Value} {e:Nat} {p:Option Addr} {l:List α} (h:Mut G G' R) (b:Sl G enc e p l) (hp:∀a,p=some a->l≠[]->a.block≠R):Sl G' enc e p l:=by
 cases p with
 | none=>exact b
 | some a=>
   refine ⟨b.1,fun hn=>?_⟩
   obtain ⟨ro,c,h2,d⟩:=b.2 hn
   exact ⟨ro,c,h.cells h2 (hp a rfl hn),d⟩
theorem VC (h:G'.length=G.length):(G'.length=G.length)/\(∀(X:NB) (j:Nat),NC (G'++X) (G.length+j)=X.getD j .dead)/\(∀X:NB,NC (G'++X) G.length=X.getD 0 .dead)/\
  (∀(X:NB) (j:Nat) b,(G'++X).set (G.length+j) b=G'++X.set j b)/\(∀(X:NB) b,(G'++X).set G.length b=G'++X.set 0 b):=by
 refine ⟨h,fun X j=>by rw [<-h];exact OL,fun X=>by rw [<-h];exact NN,fun X j b=>?_,fun X b=>?_⟩
 ·rw [<-h,Q9 _ _ (by omega)];simp
 ·rw [<-h,Q9 _ _ (by omega)];simp
theorem OO (a:R<G.length) (b:Blk):∃G',(∀X:NB,(G++X).set R b=G'++X)/\NC G' R=b/\Mut G G' R:=
 ⟨G.set R b,fun X=>P9 _ _ a,Uu a,by simp,fun j c=>OQ c⟩
end
def Own {α:Type} (lim:Nat) (G:NB) (enc:α->List Value) (e:Nat) (p:Option Addr) (cap:Nat) (l:List α):Prop:=
 (l=[]/\p=none/\cap=0)\/∃R,p=some ⟨R,0,none⟩/\cap=loose e/\NC G R=.cells false (l.flatMap enc)/\lim<=R
section
variable {α:Type} {lim e bytes cap:Nat} {G:NB} {enc:α->List Value} {p:Option Addr} {l m:List α}
theorem Own.nil:Own lim G enc e none 0 []:=.inl ⟨rfl,rfl,rfl⟩
theorem Own.app (h:Own lim G enc e p cap l) (X:NB):Own lim (G++X) enc e p cap l:=by
 rcases h with h | ⟨R,h1,h2,a,b⟩
 ·exact .inl h
 ·exact .inr ⟨R,h1,h2,by rw [NK (ND a)];exact a,b⟩
theorem Own.mut {G':NB} {R:Nat} (h:Own lim G enc e p cap l) (f:Mut G G' R) (hp:∀a,p=some a->a.block≠R):Own lim G' enc e p cap l:=by
 rcases h with h | ⟨b,h1,h2,c,d⟩
 ·exact .inl h
 ·exact .inr ⟨b,h1,h2,f.cells c (hp _ h1),d⟩
theorem Own.new {R:Nat} (a:NC G R=.cells false (l.flatMap enc)) (hl:lim<=R):Own lim G enc e (some ⟨R,0,none⟩) (loose e) l:=.inr ⟨R,rfl,rfl,a,hl⟩
theorem Own.sl (h:Own lim G enc e p cap l) (he:∀x,(enc x).length=e):Sl G enc e p l:=by
 rcases h with ⟨h1,h2,_⟩ | ⟨R,h1,h2,a,b⟩
 ·subst h1 h2;rfl
 ·subst h1;exact Sl.lit he (by rw [a];rfl) (by rw [a];rfl)
theorem Own.le (h:Own lim G enc e p cap l) {lim':Nat} (hl:lim'<=lim):Own lim' G enc e p cap l:=by
 rcases h with h | ⟨R,h1,h2,a,b⟩
 ·exact .inl h
 ·exact .inr ⟨R,h1,h2,a,by omega⟩
theorem Own.block (h:Own lim G enc e p cap l) {a:Addr} (b:p=some a):lim<=a.block/\a.block<G.length:=by
 rcases h with ⟨h1,h2,c⟩ | ⟨R,h1,h2,c,d⟩
 ·rw [h2] at b;cases b
 ·rw [h1] at b;cases b;exact ⟨d,ND c⟩
theorem Sl.cells (c:Sl G enc e p m) (b:m≠[]):∃a,p=some a/\AM.loadCells G a (m.length*e)=some (m.flatMap enc):=by
 cases p with
 | none=>exact absurd c b
 | some a=>
   obtain ⟨k1,k2⟩:=c
   obtain ⟨ro,cs,k3,d,f⟩:=k2 b
   refine ⟨a,rfl, ?_⟩
   obtain ⟨ab,g,as'⟩:=a
   simp only [QM]
   simp only at k3 d f
   simp only [k3]
   rw [Nk d,f]
theorem Own.push {lim':Nat} (h:Own lim G enc e p cap l) (u:lim'<=lim) (he:∀x,(enc x).length=e) (t:e≠0) (m:List α) (o:m≠[]) (s:(l.length+m.length)*bytes<=PM) (hn:l.length+m.length<2 ^ 61) :
  ∃(G':NB) (R:Nat),(p=none->R=G.length)/\(∀a,p=some a->R=a.block)/\Mut G G' R/\(∀j,j≠R->NC G' j=NC G j)/\(∀H0:NB,NZ H0 G->H0.length<=lim->NZ H0 G')/\
   (∀(X:NB) (n:Option Addr) (k:Nat),Sl (G++X) enc e n m->OW lim' none e bytes false (.slice p l.length cap) (.slice n m.length k) (G++X)=some (.slice (some ⟨G.length+X.length,0,none⟩) (l.length+m.length) (loose e),G'++(X++[.cells false ((l++m).flatMap enc)]))):=by
 have f:¬m.length=0:=by intro q;exact o (List.length_eq_zero_iff.1 q)
 rcases h with ⟨h1,h2,i⟩ | ⟨R,h1,h2,i,v⟩
 ·subst h1 h2 i
  refine ⟨G,G.length,fun _=>rfl,fun a h=>(by cases h),⟨rfl,fun j _=>rfl⟩,fun j _=>rfl,fun H0 h _=>h,fun X n k r=>?_⟩
  obtain ⟨a,rfl,hl⟩:=r.cells o
  simp only [Nl,N0] at s hn
  simp only [OW,firstCells,lenOf,hl,f,if_false,Oe,Nl,N0]
  rw [Nf (by omega)]
  simp [place]
 ·subst h1 h2
  have c:=ND i
  refine ⟨G.set R .dead,R,fun h=>(by cases h),fun a h=>(by cases h;rfl),⟨by simp,fun j d=>OQ d⟩,fun j d=>OQ d,fun H0 h hl=>Mut.ext (R:=R) ⟨by simp,fun j d=>OQ d⟩ h (by omega),fun X n k r=>?_⟩
  obtain ⟨a,rfl,hl⟩:=r.cells o
  have b:NC (G++X) R=.cells false (l.flatMap enc):=by rw [NK c];exact i
  have g:AM.loadCells (G++X) ⟨R,0,none⟩ (l.length*e)=some (l.flatMap enc):=by
   simp only [QM,b,N0,QW he,Ng,if_true,Po]
   rw [Oo (by rw [QW he];exact Ng _)]
  simp only [OW,firstCells,lenOf,hl,g,b,f,if_false,Oe,if_true]
  rw [Nf (by unfold loose;omega)]
  simp [show lim'<=R by omega,place,P9 _ _ c,Nr]
theorem Own.push1 {lim':Nat} (h:Own lim G enc e p cap l) (d:lim'<=lim) (he:∀x,(enc x).length=e) (c:e≠0) (x:α) (m:(l.length+1)*bytes<=PM) (hn:l.length+1<2 ^ 61) :
  ∃(G':NB) (R:Nat),(p=none->R=G.length)/\(∀a,p=some a->R=a.block)/\Mut G G' R/\(∀H0:NB,NZ H0 G->H0.length<=lim->NZ H0 G')/\
   (∀(X:NB) (b k:Nat),NC (G++X) b=.cells false (enc x)->OW lim' none e bytes false (.slice p l.length cap) (.slice (some ⟨b,0,none⟩) 1 k) (G++X)=some (.slice (some ⟨G.length+X.length,0,none⟩) (l.length+1) (loose e),G'++(X++[.cells false ((l++[x]).flatMap enc)]))):=by
 obtain ⟨G',R,h1,h2,g,_,i,j⟩:=h.push d he c [x] (by simp) (by simpa using m) (by simpa using hn)
 refine ⟨G',R,h1,h2,g,i,fun X b k f=>?_⟩
 exact j X (some ⟨b,0,none⟩) k (Sl.lit he (by rw [f];rfl) (by rw [f];simp [cellsOf]))
def U7 (len cap:Nat) (lo hi mx:Option Value):Option (Nat×Nat×Nat):=bounds (fun o=>match o with | .const v=>v | _=>undef) len cap (lo.map .const) (hi.map .const) (mx.map .const)
theorem Nwy {ρ:Operand->Value} {len cap:Nat} {lo hi mx:Option Operand}:bounds ρ len cap lo hi mx=U7 len cap (lo.map ρ) (hi.map ρ) (mx.map ρ):=by
 unfold U7
 cases lo<;>cases hi<;>cases mx<;>rfl
theorem Nfi {n:Int} {m:Nat} {kk:IntKind} (a:0<=n) (h:n<=(m:Int)):bound (.int kk n) m=some n.toNat:=by
 simp only [bound];rw [Nk ⟨a,h⟩]
section
variable {len:Nat} {k1 k2 k3:IntKind} {l h x:Int}
theorem Nmb (a:0<=h) (h1:h<=(cap:Int)):U7 len cap none (some (.int k1 h)) none=some (0,h.toNat,cap):=by
 delta U7 bounds;simp only [Nz,Ov,Nfi a h1]
theorem Nda (l0:0<=l) (l1:l<=(len:Int)):U7 len cap (some (.int k1 l)) none none=some (l.toNat,len,cap):=by
 delta U7 bounds;simp only [Nz,Ov,Nfi l0 l1]
end
end
end Go.AM


namespace Go.Net
structure Leg where
 (id frm dst dep mins cut grams days:Int)
 deriving DecidableEq,Inhabited
def OP:Int:=1051898399
def Fine (l:Leg):Prop:=1<=l.id/\l.id<=999999/\1<=l.frm/\l.frm<=999999/\1<=l.dst/\l.dst<=999999/\0<=l.dep/\l.dep<=1439/\1<=l.mins/\l.mins<=20160/\0<=l.cut/\l.cut<=10080/\0<=l.grams/\l.grams<=1000000000/\1<=l.days/\l.days<=127/\l.frm≠l.dst
instance (l:Leg):Decidable (Fine l):=by unfold Fine;infer_instance
def runs (days:Int) (d:Nat):Bool:=days.toNat / 2 ^ (d % 7) % 2 == 1
def goes (l:Leg) (d:Nat):Bool:=runs l.days d&&decide (0<=1440*(d:Int)+l.dep-l.cut)&&decide (1440*(d:Int)+l.dep+l.mins<=OP)
def Njg:Nat:=730485
theorem Nn3:Njg=730485:=rfl
attribute [irreducible] Njg
def Dep (l:Leg) (a:Int):Prop:=∃d:Nat,d<Njg/\goes l d=true/\a=1440*(d:Int)+l.dep
def Nyb (l:Leg) (b:Int):Option Nat:=((List.range Njg).find? fun (d:Nat)=>goes l (Njg-1-d)&&decide (1440*((Njg-1-d:Nat):Int)+l.dep+l.mins<=b)).map fun (d:Nat)=>Njg-1-d
def N3s (l:Leg) (b:Int):Option Int:=(Nyb l b).map fun (d:Nat)=>1440*(d:Int)+l.dep
inductive Way (L:List Leg):Nat->Int->Int->Int->Int->Prop where
 | nil (p t:Int):Way L 0 p t p t
 | snoc {k:Nat} {p t m s a:Int} {l:Leg}:Way L k p t m s->l∈L->l.frm=m->Dep l a->s<=a-l.cut->Way L (k+1) p t l.dst (a+l.mins)
theorem Way.later {L:List Leg} {k:Nat} {p t q u:Int} (h:Way L k p t q u) (a:∀l∈L,Fine l):t<=u:=by
 induction h with
 | nil=>omega
 | snoc h hl b hd c ih=>have:=a _ hl;unfold Fine at this;omega
theorem Way.early {L:List Leg} {k:Nat} {p t b q u:Int} (h:Way L k p t q u) (d:b<=t):(k=0/\p=q/\u=t)\/Way L k p b q u:=by
 induction h with
 | nil=>exact .inl ⟨rfl,rfl,rfl⟩
 | snoc h hl a hd c ih=>
   rcases ih d with ⟨rfl,rfl,rfl⟩ | ih
   ·exact .inr (.snoc (.nil _ _) hl a hd (by omega))
   ·exact .inr (.snoc ih hl a hd c)
theorem Way.mono {L M:List Leg} {k:Nat} {p t q u:Int} (h:Way L k p t q u) (b:∀l∈L,l∈M):Way M k p t q u:=by
 induction h with
 | nil=>exact .nil _ _
 | snoc h hl a hd hr ih=>exact .snoc ih (b _ hl) a hd hr
theorem Way.trans {L:List Leg} {k j:Nat} {p t m s q u:Int} (h:Way L k p t m s) (h2:Way L j m s q u):Way L (k+j) p t q u:=by
 induction h2 with
 | nil=>exact h
 | snoc h2 hl a hd hr ih=>exact .snoc (ih h) hl a hd hr
theorem Way.cons {L:List Leg} {k:Nat} {p t a q u:Int} {l:Leg} (hl:l∈L) (b:l.frm=p) (hd:Dep l a) (hr:t<=a-l.cut) (h:Way L k l.dst (a+l.mins) q u):Way L (k+1) p t q u:=by
 have:=(Way.snoc (.nil p t) hl b hd hr).trans h
 rwa [N0,Qk] at this
theorem Way.head {L:List Leg} {k:Nat} {p t q u:Int} (h:Way L (k+1) p t q u):∃l∈L,∃a,l.frm=p/\Dep l a/\t<=a-l.cut/\Way L k l.dst (a+l.mins) q u:=by
 generalize e:k+1=n at h
 induction h generalizing k with
 | nil=>omega
 | @snoc j p t m s a l h hl hf hd hr ih=>
   cases j with
   | zero=>
     cases h
     obtain rfl:k=0:=by omega
     exact ⟨l,hl,a,hf,hd,hr,.nil _ _⟩
   | succ i=>
     obtain ⟨l',b,a',h1,h2,c,d⟩:=ih rfl
     obtain rfl:k=i+1:=by omega
     exact ⟨l',b,a',h1,h2,c,.snoc d hl hf hd hr⟩
def Uy (S:Int->Prop) (v:Int):Prop:=(v=-1/\∀u,¬S u)\/(S v/\∀u,S u->v<=u)
theorem Uy.uniq {S:Int->Prop} {v w:Int} (h:Uy S v) (h':Uy S w):v=w:=by
 rcases h with ⟨h1,h2⟩ | ⟨h1,h2⟩<;>rcases h' with ⟨g1,a⟩ | ⟨g1,a⟩
 ·omega
 ·exact absurd g1 (h2 _)
 ·exact absurd h1 (a _)
 ·have:=h2 _ g1;have:=a _ h1;omega
theorem Uy.congr {S T:Int->Prop} {v:Int} (h:Uy S v) (e:∀u,S u↔T u):Uy T v:=by
 rcases h with ⟨h1,h2⟩ | ⟨h1,h2⟩
 ·exact .inl ⟨h1,fun u a=>h2 u ((e u).2 a)⟩
 ·exact .inr ⟨(e v).1 h1,fun u a=>h2 u ((e u).2 a)⟩
theorem Uy.mem {S:Int->Prop} {v:Int} (h:Uy S v) (a:0<=v):S v:=by
 rcases h with ⟨h1,h2⟩ | ⟨h1,h2⟩
 ·omega
 ·exact h1
theorem Uy.none {S:Int->Prop} {v:Int} (h:Uy S v) (a:∀u,S u->0<=u) (b:v<0):∀u,¬S u:=by
 rcases h with ⟨h1,h2⟩ | ⟨h1,h2⟩
 ·exact h2
 ·have:=a _ h1;omega
theorem Uy.le {S:Int->Prop} {v u:Int} (h:Uy S v) (a:S u):v<=u:=by
 rcases h with ⟨h1,h2⟩ | ⟨h1,h2⟩
 ·exact absurd a (h2 _)
 ·exact h2 _ a
theorem Uy.one {S:Int->Prop} {v x:Int} (h:Uy S v) (a:∀u,S u->0<=u) (b:0<=x):Uy (fun u=>S u\/u=x) (if v<0\/x<v then x else v):=by
 by_cases hc:v<0\/x<v
 ·rw [Nk hc]
  refine .inr ⟨.inr rfl,fun u hu=>?_⟩
  rcases hu with hu | hu
  ·rcases hc with hc | hc
   ·exact absurd hu (h.none a hc u)
   ·have:=h.le hu;omega
  ·omega
 ·rw [Nf hc]
  have:=h.mem (by omega)
  refine .inr ⟨.inl this,fun u hu=>?_⟩
  rcases hu with hu | hu
  ·exact h.le hu
  ·omega
theorem Uy.dom {S T:Int->Prop} {v:Int} (h:Uy S v) (h1:∀u,S u->T u) (h2:∀u,T u->∃w,w<=u/\S w):Uy T v:=by
 rcases h with ⟨g1,a⟩ | ⟨g1,a⟩
 ·exact .inl ⟨g1,fun u b=>by obtain ⟨w,_,hw⟩:=h2 u b;exact a w hw⟩
 ·exact .inr ⟨h1 _ g1,fun u b=>by obtain ⟨w,c,hw⟩:=h2 u b;have:=a w hw;omega⟩
structure NetOk (N:Nat) (P:List Int) (L:List Leg) (pos:Int->Nat):Prop where
 fine:∀l∈L,Fine l
 frm:∀l∈L,l.frm∈P
 dst:∀l∈L,l.dst∈P
 inj:∀a∈P,∀b∈P,pos a=pos b->a=b
 lt:∀a∈P,pos a<N
def Wp (L:List Leg) (p ready q v:Int):Prop:=Uy (fun u=>(∃j,Way L j p ready q u)/\u<=ready+86400) v
theorem Wp.start {L:List Leg} {p ready v:Int} (h:Wp L p ready p v) (a:∀l∈L,Fine l):v=ready:=
 Uy.uniq h (.inr ⟨⟨⟨0,.nil _ _⟩,by omega⟩,fun u ⟨⟨j,hw⟩,_⟩=>hw.later a⟩)
theorem Wp.ge {L:List Leg} {p ready q v:Int} (h:Wp L p ready q v) (a:∀l∈L,Fine l) (b:0<=v):ready<=v/\v<=ready+86400:=by
 obtain ⟨⟨j,hw⟩,hl⟩:=h.mem b
 exact ⟨hw.later a,hl⟩
theorem Wp.later {L:List Leg} {p a b q x y:Int} (e:Wp L p a q x) (g:Wp L p b q y) (d:a<=b) (f:0<=y):x<=y:=by
 obtain ⟨⟨j,hw⟩,hl⟩:=g.mem f
 by_cases c:y<=a+86400
 ·rcases hw.early d with ⟨rfl,rfl,rfl⟩ | hw'
  ·have:=e.le (u:=a) ⟨⟨0,.nil _ _⟩,by omega⟩;omega
  ·exact e.le ⟨⟨j,hw'⟩,c⟩
 ·rcases e with ⟨h1,_⟩ | ⟨⟨_,h1⟩,_⟩<;>omega
theorem Wp.less {L M:List Leg} {p t q x y:Int} (b:Wp L p t q x) (e:Wp M p t q y) (d:∀l∈M,l∈L) (c:∀l∈L,Fine l) (f:0<=t) (a:0<=y):0<=x/\x<=y:=by
 obtain ⟨⟨j,hw⟩,hl⟩:=e.mem a
 have hS:(∃j,Way L j p t q y)/\y<=t+86400:=⟨⟨j,hw.mono d⟩,hl⟩
 refine ⟨?_,b.le hS⟩
 apply Oq;intro hc
 exact b.none (fun u ⟨⟨j,hw⟩,_⟩=>by have:=hw.later c;omega) (by omega) y hS
theorem Wp.same {L M:List Leg} {p t q x y:Int} (b:Wp L p t q x) (c:Wp M p t q y) (a:∀l,l∈M↔l∈L):x=y:=
 b.uniq (c.congr fun u=>⟨fun ⟨⟨j,hw⟩,hl⟩=>⟨⟨j,hw.mono fun l h=>(a l).1 h⟩,hl⟩,fun ⟨⟨j,hw⟩,hl⟩=>⟨⟨j,hw.mono fun l h=>(a l).2 h⟩,hl⟩⟩)
def UC (S:Int->Prop) (v:Int):Prop:=(v=-1/\∀u,¬S u)\/(S v/\∀u,S u->u<=v)
theorem UC.uniq {S:Int->Prop} {v w:Int} (h:UC S v) (h':UC S w):v=w:=by
 rcases h with ⟨h1,h2⟩ | ⟨h1,h2⟩<;>rcases h' with ⟨g1,a⟩ | ⟨g1,a⟩
 ·omega
 ·exact absurd g1 (h2 _)
 ·exact absurd h1 (a _)
 ·have:=h2 _ g1;have:=a _ h1;omega
theorem UC.congr {S T:Int->Prop} {v:Int} (h:UC S v) (e:∀u,S u↔T u):UC T v:=by
 rcases h with ⟨h1,h2⟩ | ⟨h1,h2⟩
 ·exact .inl ⟨h1,fun u a=>h2 u ((e u).2 a)⟩
 ·exact .inr ⟨(e v).1 h1,fun u a=>h2 u ((e u).2 a)⟩
theorem UC.mem {S:Int->Prop} {v:Int} (h:UC S v) (a:0<=v):S v:=by
 rcases h with ⟨h1,h2⟩ | ⟨h1,h2⟩
 ·omega
 ·exact h1
theorem UC.none {S:Int->Prop} {v:Int} (h:UC S v) (a:∀u,S u->0<=u) (b:v<0):∀u,¬S u:=by
 rcases h with ⟨h1,h2⟩ | ⟨h1,h2⟩
 ·exact h2
 ·have:=a _ h1;omega
theorem UC.ge {S:Int->Prop} {v u:Int} (h:UC S v) (a:S u):u<=v:=by
 rcases h with ⟨h1,h2⟩ | ⟨h1,h2⟩
 ·exact absurd a (h2 _)
 ·exact h2 _ a
theorem UC.one {S:Int->Prop} {v x:Int} (h:UC S v) (a:∀u,S u->0<=u) (b:0<=x):UC (fun u=>S u\/u=x) (if v<x then x else v):=by
 by_cases hc:v<x
 ·rw [Nk hc]
  refine .inr ⟨.inr rfl,fun u hu=>?_⟩
  rcases hu with hu | hu
  ·have:=h.ge hu;omega
  ·omega
 ·rw [Nf hc]
  have:=h.mem (by omega)
  refine .inr ⟨.inl this,fun u hu=>?_⟩
  rcases hu with hu | hu
  ·exact h.ge hu
  ·omega
theorem UC.dom {S T:Int->Prop} {v:Int} (h:UC S v) (h1:∀u,S u->T u) (h2:∀u,T u->∃w,u<=w/\S w):UC T v:=by
 rcases h with ⟨g1,a⟩ | ⟨g1,a⟩
 ·exact .inl ⟨g1,fun u b=>by obtain ⟨w,_,hw⟩:=h2 u b;exact a w hw⟩
 ·exact .inr ⟨h1 _ g1,fun u b=>by obtain ⟨w,c,hw⟩:=h2 u b;have:=a w hw;omega⟩
theorem Dep.ready {l:Leg} {a:Int} (h:Dep l a):0<=a-l.cut:=by
 obtain ⟨d,_,b,rfl⟩:=h
 unfold goes at b
 simp only [N9,N3] at b
 omega
def X9 (L:List Leg) (q dl p v:Int):Prop:=UC (fun u=>0<=u/\dl-86400<=u/\∃j v,v<=dl/\Way L j p u q v) v
theorem X9.start {L:List Leg} {q dl v:Int} (h:X9 L q dl q v) (b:∀l∈L,Fine l) (a:0<=dl):v=dl:=
 h.uniq (.inr ⟨⟨a,by omega,0,dl,Oa _,.nil _ _⟩,fun u ⟨_,_,j,v,c,hw⟩=>by have:=hw.later b;omega⟩)
theorem X9.range {L:List Leg} {q dl p v:Int} (h:X9 L q dl p v) (a:∀l∈L,Fine l) (b:0<=v):dl-86400<=v/\v<=dl:=by
 obtain ⟨_,h1,j,u,c,hw⟩:=h.mem b
 have:=hw.later a
 exact ⟨h1,by omega⟩
theorem X9.iff {L:List Leg} {q dl p v s x:Int} (h:X9 L q dl p v) (c:Wp L p s q x) (d:∀l∈L,Fine l) (b:0<=s) (f:dl-86400<=s):(0<=x/\x<=dl)↔s<=v:=by
 constructor
 ·rintro ⟨h1,h2⟩
  obtain ⟨⟨j,hw⟩,_⟩:=c.mem h1
  exact h.ge ⟨b,f,j,x,h2,hw⟩
 ·intro a
  obtain ⟨_,_,j,u,g,hw⟩:=h.mem (by omega)
  have hS:∃w,w<=dl/\(∃j,Way L j p s q w)/\w<=s+86400:=by
   rcases hw.early a with ⟨rfl,rfl,e⟩ | hw'
   ·exact ⟨s,by omega,⟨0,.nil _ _⟩,by omega⟩
   ·exact ⟨u,g,⟨j,hw'⟩,by omega⟩
  obtain ⟨w,i,hS⟩:=hS
  have:=c.le hS
  refine ⟨?_,by omega⟩
  apply Oq;intro hc
  exact c.none (fun u ⟨⟨j,hw⟩,_⟩=>by have:=hw.later d;omega) (by omega) w hS
theorem X9.later {L:List Leg} {p q a b x y:Int} (i:X9 L q a p x) (e:X9 L q b p y) (f:∀l∈L,Fine l) (g:a<=b) (c:0<=x) (d:0<=y):x<=y:=by
 obtain ⟨h1,h2,j,v,k,hw⟩:=i.mem c
 by_cases h:b-86400<=x
 ·exact e.ge ⟨h1,h,j,v,by omega,hw⟩
 ·have:=(e.range f d).1;omega
theorem X9.same {L M:List Leg} {p q dl x y:Int} (e:X9 L q dl p x) (f:X9 M q dl p y) (d:∀l,l∈M↔l∈L):x=y:=
 e.uniq (f.congr fun u=>⟨fun ⟨a,b,j,v,c,hw⟩=>⟨a,b,j,v,c,hw.mono fun l h=>(d l).1 h⟩,fun ⟨a,b,j,v,c,hw⟩=>⟨a,b,j,v,c,hw.mono fun l h=>(d l).2 h⟩⟩)
def N4c (pos:Int->Nat) (c b:List Int) (l:Leg):List Int:=
 if c.getD (pos l.dst) (-1)<0 then b else
 match N3s l (c.getD (pos l.dst) (-1)) with
 | some a=>b.set (pos l.frm) (if b.getD (pos l.frm) (-1)<a-l.cut then a-l.cut else b.getD (pos l.frm) (-1))
 | none=>b
def Vv (N:Nat) (pos:Int->Nat) (L:List Leg) (a:List Int):List Int:=L.foldl (N4c pos a) (List.replicate N (-1))
def Wo (L:List Leg):Int->Int->List (Leg×Int)->Int->Int->Prop
 | p,t,[],q,u=>p=q/\t=u
 | p,t,(l,a)::w,q,u=>l∈L/\l.frm=p/\Dep l a/\t<=a-l.cut/\Wo L l.dst (a+l.mins) w q u
theorem Wo.way {L:List Leg}:∀{w:List (Leg×Int)} {p t q u:Int},Wo L p t w q u->Way L w.length p t q u
 | [],p,t,q,u,h=>by obtain ⟨rfl,rfl⟩:=h;exact .nil _ _
 | (l,a)::w,p,t,q,u,h=>by
   obtain ⟨h1,h2,b,c,d⟩:=h
   exact .cons h1 h2 b c d.way
theorem Wo.later {L:List Leg} {w:List (Leg×Int)} {p t q u:Int} (h:Wo L p t w q u) (a:∀l∈L,Fine l):t<=u:=h.way.later a
theorem Wo.from {L:List Leg} (d:∀l∈L,Fine l):∀{w:List (Leg×Int)} {p t q u m:Int},Wo L p t w q u->m∈w.map (fun x=>x.1.dst)->∃k s,k<w.length/\t<=s/\Way L k m s q u
 | [],_,_,_,_,_,_,h=>by simp at h
 | (l,a)::w,p,t,q,u,m,h,hm=>by
   obtain ⟨h1,h2,g,i,c⟩:=h
   have b:=d l h1
   unfold Fine at b
   rw [Pi,Nu] at hm
   rcases hm with rfl | hm
   ·exact ⟨w.length,a+l.mins,by simp,by omega,c.way⟩
   ·obtain ⟨k,s,g1,f,e⟩:=Wo.from d c hm
    exact ⟨k,s,by simp;omega,by omega,e⟩
theorem Wo.nodup {L:List Leg} (b:∀l∈L,Fine l):∀{w:List (Leg×Int)} {p t q v:Int},Wo L p t w q v->(∀j v',Way L j p t q v'->v'<=v->w.length<=j)->(p::w.map (fun x=>x.1.dst)).Nodup
 | [],_,_,_,_,_,_=>by simp
 | (l,a)::w,p,t,q,v,h,hmin=>by
   rw [List.nodup_cons]
   constructor
   ·intro m
    obtain ⟨k,s,g1,c,d⟩:=Wo.from b h m
    rcases d.early c with ⟨rfl,rfl,e⟩ | hw
    ·have:=hmin 0 t (.nil _ _) (by omega);simp at this
    ·have:=hmin k v hw (Oa _);omega
   ·obtain ⟨h1,h2,f,g,i⟩:=h
    rw [Pi]
    exact i.nodup b fun j v' hw n=>by
     have:=hmin (j+1) v' (.cons h1 h2 f g hw) n
     simpa using this
theorem Wo.uniq {L:List Leg}:∀{w:List (Leg×Int)} {p t q u b c:Int},Wo L p t w q u->Wo L p t w b c->q=b/\u=c
 | [],_,_,_,_,_,_,h,h'=>⟨h.1.symm.trans h'.1,h.2.symm.trans h'.2⟩
 | (l,a)::w,_,_,_,_,_,_,h,h'=>h.2.2.2.2.uniq h'.2.2.2.2
end Go.Net


namespace Go.Flow
structure Pr where
 head:Nat
 tail:Nat
 room:Int
 flow:Int
 deriving DecidableEq,Inhabited
def Nyd:List Int->Int
 | []=>0
 | x::l=>x+Nyd l
def exc (v:Nat):List Pr->Int
 | []=>0
 | p::l=>(if p.head=v then p.flow else 0)-(if p.tail=v then p.flow else 0)+exc v l
def net (S:Nat->Bool):List Pr->Int
 | []=>0
 | p::l=>(if S p.tail then p.flow else 0)-(if S p.head then p.flow else 0)+net S l
def cut (S:Nat->Bool):List Pr->Int
 | []=>0
 | p::l=>(if S p.tail&&!S p.head then p.room+p.flow else 0)+cut S l
def Nbs (S:Nat->Bool) (l:List Pr):Nat->Int
 | 0=>0
 | n+1=>Nbs S l n+(if S n then exc n l else 0)
theorem Nhj (S:Nat->Bool):∀n,Nbs S [] n=0
 | 0=>rfl
 | n+1=>by simp [Nbs,Nhj S n,exc]
theorem Nem (S:Nat->Bool) (p:Pr) (l:List Pr):∀n,Nbs S (p::l) n=(if p.head<n/\S p.head=true then p.flow else 0)-(if p.tail<n/\S p.tail=true then p.flow else 0)+Nbs S l n
 | 0=>by simp [Nbs]
 | n+1=>by
   simp only [Nbs,Nem S p l n,exc]
   by_cases hS:S n=true
   ·rw [Nk hS,Nk hS]
    have key:∀x:Nat,(if x<n+1/\S x=true then p.flow else 0)=(if x<n/\S x=true then p.flow else 0)+(if x=n then p.flow else 0):=fun x=>by
     by_cases h:x=n
     ·subst h
      rw [Nk ⟨by omega,hS⟩,Nf (by omega),Nk rfl];omega
     ·rw [Nf h]
      by_cases h2:x<n/\S x=true
      ·rw [Nk ⟨by omega,h2.2⟩,Nk h2];omega
      ·rw [Nf (fun a=>h2 ⟨by omega,a.2⟩),Nf h2];omega
    rw [key p.head,key p.tail];omega
   ·rw [Nf hS,Nf hS]
    have key:∀x:Nat,(if x<n+1/\S x=true then p.flow else 0)=(if x<n/\S x=true then p.flow else 0):=fun x=>by
     by_cases h2:x<n/\S x=true
     ·rw [Nk ⟨by omega,h2.2⟩,Nk h2]
     ·rw [Nf (fun a=>h2 ⟨by
       have:x≠n:=fun e=>hS (by rw [<-e];exact a.2)
       omega,a.2⟩),Nf h2]
    rw [key p.head,key p.tail];omega
theorem Z4 {S:Nat->Bool} {n:Nat}:∀{l:List Pr},(∀p∈l,p.head<n/\p.tail<n)->Nbs S l n=- net S l
 | [],_=>by rw [Nhj];rfl
 | p::l,h=>by
   have ih:=Z4 (S:=S) (n:=n) (l:=l) fun q a=>h q (Nh _ a)
   obtain ⟨h1,h2⟩:=h p Nm
   rw [Nem,ih]
   simp only [net,h1,h2,Rt]
   omega
structure IsFlow (n:Nat) (l:List Pr):Prop where
 two:2<=n
 lt:∀p∈l,p.head<n/\p.tail<n
 nn:∀p∈l,0<=p.room/\0<=p.flow
 bal:∀v,2<=v->exc v l=0
theorem Z0 {S:Nat->Bool} {l:List Pr} (a:∀v,2<=v->exc v l=0):∀n,2<=n->Nbs S l n=(if S 0 then exc 0 l else 0)+(if S 1 then exc 1 l else 0)
 | 0,h=>by omega
 | 1,h=>by omega
 | 2,_=>by simp [Nbs]
 | n+3,_=>by
   rw [Nbs,Z0 a (n+2) (by omega),a (n+2) (by omega)]
   simp
theorem IsFlow.ends {n:Nat} {l:List Pr} (h:IsFlow n l):exc 0 l=- exc 1 l:=by
 have h1:=Z4 (S:=fun _=>true) h.lt
 rw [Z0 h.bal n h.two] at h1
 have h2:net (fun _=>true) l=0:=by
  clear h h1
  induction l with
  | nil=>rfl
  | cons p l ih=>simp only [net,ih];omega
 rw [h2] at h1
 simp at h1
 omega
theorem IsFlow.value {n:Nat} {l:List Pr} (h:IsFlow n l) {S:Nat->Bool} (a:S 0=true) (h1:S 1=false):net S l=exc 1 l:=by
 have h2:=Z4 (S:=S) h.lt
 rw [Z0 h.bal n h.two,a,h1] at h2
 have:=h.ends
 simp at h2
 omega
theorem Nk8 {S:Nat->Bool}:∀{l:List Pr},(∀p∈l,0<=p.room/\0<=p.flow)->net S l<=cut S l/\((∃p,p∈l/\S p.tail=true/\S p.head=false/\0<p.room\/p∈l/\S p.tail=false/\S p.head=true/\0<p.flow)->net S l<cut S l)
 | [],_=>⟨Oa _,fun ⟨p,h⟩=>by rcases h with ⟨h,_⟩ | ⟨h,_⟩<;>cases h⟩
 | p::l,h=>by
   obtain ⟨i,f⟩:=Nk8 (S:=S) (l:=l) fun q d=>h q (Nh _ d)
   obtain ⟨h1,h2⟩:=h p Nm
   simp only [net,cut]
   refine ⟨?_,fun g=>?_⟩
   ·cases S p.tail<;>cases S p.head<;>simp<;>omega
   ·have e:(S p.tail=true/\S p.head=false/\0<p.room\/S p.tail=false/\S p.head=true/\0<p.flow)\/net S l<cut S l:=by
     obtain ⟨q,d⟩:=g
     rcases d with ⟨hm,d⟩ | ⟨hm,d⟩
     ·rcases Nu.mp hm with rfl | hm
      ·exact .inl (.inl d)
      ·exact .inr (f ⟨q,.inl ⟨hm,d⟩⟩)
     ·rcases Nu.mp hm with rfl | hm
      ·exact .inl (.inr d)
      ·exact .inr (f ⟨q,.inr ⟨hm,d⟩⟩)
    rcases e with (⟨a,b,c⟩ | ⟨a,b,c⟩) | hl
    ·rw [a,b];simp;omega
    ·rw [a,b];simp;omega
    ·cases S p.tail<;>cases S p.head<;>simp<;>omega
theorem Ntu {S:Nat->Bool}:∀{l:List Pr},(∀p∈l,(S p.tail=true->S p.head=false->p.room=0)/\(S p.tail=false->S p.head=true->p.flow=0))->net S l=cut S l
 | [],_=>rfl
 | p::l,h=>by
   have ih:=Ntu (S:=S) (l:=l) fun q a=>h q (Nh _ a)
   obtain ⟨h1,h2⟩:=h p Nm
   simp only [net,cut,ih]
   cases ht:S p.tail<;>cases hh:S p.head
   ·simp
   ·rw [h2 ht hh];simp
   ·rw [h1 ht hh];simp
   ·simp
theorem IsFlow.le_cut {n:Nat} {l:List Pr} (h:IsFlow n l) {S:Nat->Bool} (a:S 0=true) (h1:S 1=false):exc 1 l<=cut S l:=by
 rw [<-h.value a h1];exact (Nk8 h.nn).1
def Closed (S:Nat->Bool) (l:List Pr):Prop:=∀p∈l,(S p.tail=true->S p.head=false->p.room=0)/\(S p.tail=false->S p.head=true->p.flow=0)
theorem IsFlow.eq_cut {n:Nat} {l:List Pr} (h:IsFlow n l) {S:Nat->Bool} (a:S 0=true) (h1:S 1=false) (hc:Closed S l):exc 1 l=cut S l:=by
 rw [<-h.value a h1];exact Ntu hc
theorem IsFlow.closed {n:Nat} {l:List Pr} (h:IsFlow n l) {S:Nat->Bool} (e:S 0=true) (h1:S 1=false) (he:exc 1 l=cut S l):Closed S l:=fun p hp=>by
 have f:=h.value e h1
 have c:=(Nk8 (S:=S) h.nn).2
 obtain ⟨g,i⟩:=h.nn p hp
 refine ⟨fun a b=>?_,fun a b=>?_⟩
 ·apply Ns
  intro d
  have:=c ⟨p,.inl ⟨hp,a,b,by omega⟩⟩
  omega
 ·apply Ns
  intro d
  have:=c ⟨p,.inr ⟨hp,a,b,by omega⟩⟩
  omega
theorem Ngw (v:Nat):∀(l m:List Pr),exc v (l++m)=exc v l+exc v m
 | [],m=>by simp [exc]
 | p::l,m=>by simp only [Oc,exc,Ngw v l m];omega
theorem Xo (S:Nat->Bool):∀(l m:List Pr),cut S (l++m)=cut S l+cut S m
 | [],m=>by simp [cut]
 | p::l,m=>by simp only [Oc,cut,Xo S l m];omega
def push (p:Pr) (d:Int):Pr:={ p with room:=p.room-d,flow:=p.flow+d }
theorem Nn1 {v:Nat} {d:Int}:∀{l:List Pr} {k:Nat},k<l.length->exc v (l.set k (push (l.getD k default) d))=exc v l+(if (l.getD k default).head=v then d else 0)-(if (l.getD k default).tail=v then d else 0)
 | [],k,h=>by simp at h
 | p::l,0,_=>by
   simp only [Qr,exc,List.getD_cons_zero,push]
   by_cases h1:p.head=v
   ·by_cases h2:p.tail=v
    ·simp only [h1,h2,if_true];omega
    ·simp only [h1,if_true,Nf h2];omega
   ·by_cases h2:p.tail=v
    ·simp only [Nf h1,h2,if_true];omega
    ·simp only [Nf h1,Nf h2];omega
 | p::l,k+1,h=>by
   simp only [Ph,exc,List.getD_cons_succ]
   rw [Nn1 (by simpa using h)];omega
theorem Nn4 {S:Nat->Bool} {d:Int}:∀{l:List Pr} {k:Nat},k<l.length->cut S (l.set k (push (l.getD k default) d))=cut S l
 | [],k,h=>by simp at h
 | p::l,0,_=>by
   simp only [Qr,cut,List.getD_cons_zero,push]
   cases S p.tail<;>cases S p.head<;>simp<;>omega
 | p::l,k+1,h=>by
   simp only [Ph,cut,List.getD_cons_succ]
   rw [Nn4 (by simpa using h)]
end Go.Flow


namespace Go.Flow
open Go.AM
def tw (i:Nat):Nat:=if i % 2=0 then i+1 else i-1
theorem Nhg (i:Nat):tw (tw i)=i:=by unfold tw;split<;>(split<;>omega)
theorem VX (i:Nat):tw i / 2=i / 2:=by unfold tw;split<;>omega
theorem Nzt (i:Nat):tw i≠i:=by unfold tw;split<;>omega
theorem XI (i:Nat):(tw i % 2=0)↔¬(i % 2=0):=by unfold tw;split<;>omega
def hd (l:List Pr) (i:Nat):Nat:=if i % 2=0 then (gt l (i / 2)).head else (gt l (i / 2)).tail
def tl (l:List Pr) (i:Nat):Nat:=if i % 2=0 then (gt l (i / 2)).tail else (gt l (i / 2)).head
def rm (l:List Pr) (i:Nat):Int:=if i % 2=0 then (gt l (i / 2)).room else (gt l (i / 2)).flow
theorem Nmt (l:List Pr) (i:Nat):tl l (tw i)=hd l i:=by
 unfold tl hd
 rw [VX]
 by_cases h:i % 2=0
 ·rw [Nf (by rw [XI];exact fun h2=>h2 h),Nk h]
 ·rw [Nk ((XI i).mpr h),Nf h]
theorem Nvt (l:List Pr) (i:Nat):hd l (tw i)=tl l i:=by rw [<-Nmt,Nhg]
def RB (l:List Pr) (i:Nat) (d:Int):List Pr:=l.set (i / 2) (push (gt l (i / 2)) (if i % 2=0 then d else -d))
theorem Mv (l:List Pr) (i:Nat) (d:Int):(RB l i d).length=l.length:=by simp [RB]
theorem gt_set {α:Type} [Inhabited α] {l:List α} {k j:Nat} {x:α} (a:k<l.length):gt (l.set k x) j=if j=k then x else gt l j:=by
 unfold gt
 rw [Nc,Nc]
 by_cases h:j=k
 ·subst h;rw [Nk rfl,Q8 a];rfl
 ·rw [Nf h,Qi (Ne.symm h)]
section
variable {l:List Pr} {i:Nat} {d:Int}
theorem Ngt (hi:i / 2<l.length) (j:Nat):hd (RB l i d) j=hd l j:=by
 unfold hd RB
 rw [gt_set hi]
 by_cases h:j / 2=i / 2
 ·rw [Nk h,h];rfl
 ·rw [Nf h]
theorem Nfw (hi:i / 2<l.length) (j:Nat):tl (RB l i d) j=tl l j:=by rw [<-Nvt,Ngt hi,Nvt]
theorem VZ (hi:i / 2<l.length) (j:Nat):rm (RB l i d) j=if j=i then rm l i-d else if j=tw i then rm l j+d else rm l j:=by
 unfold rm RB
 rw [gt_set hi]
 by_cases h:j / 2=i / 2
 ·rw [Nk h]
  by_cases b:j=i
  ·subst b
   rw [Nk rfl]
   by_cases h2:j % 2=0
   ·simp only [h2,if_true,push]
   ·simp only [h2,if_false,push];omega
  ·have a:j=tw i:=by unfold tw;split<;>omega
   rw [Nf b,Nk a,h]
   by_cases h2:i % 2=0
   ·have c:¬j % 2=0:=by rw [a,XI];exact fun f=>f h2
    simp only [h2,c,if_true,if_false,push]
   ·have c:j % 2=0:=by rw [a,XI];exact h2
    simp only [h2,c,if_true,if_false,push];omega
 ·have b:j≠i:=fun e=>h (by rw [e])
  have a:j≠tw i:=fun e=>h (by rw [e,VX])
  rw [Nf h,Nf b,Nf a]
theorem Nje (hi:i / 2<l.length) (v:Nat):exc v (RB l i d)=exc v l+(if hd l i=v then d else 0)-(if tl l i=v then d else 0):=by
 have:=Nn1 (v:=v) (d:=if i % 2=0 then d else -d) hi
 unfold RB hd tl gt
 rw [this]
 by_cases h2:i % 2=0
 ·simp only [h2,if_true]
 ·simp only [h2,if_false]
  by_cases a:(l.getD (i / 2) default).head=v<;>by_cases b:(l.getD (i / 2) default).tail=v<;>simp only [a,b,if_true,if_false]<;>omega
theorem Nwe {S:Nat->Bool} (hi:i / 2<l.length):cut S (RB l i d)=cut S l:=Nn4 hi
theorem Npe (hi:i / 2<l.length):RB l i 0=l:=by
 unfold RB
 have:push (gt l (i / 2)) (if i % 2=0 then (0:Int) else -0)=gt l (i / 2):=by simp [push]
 rw [this,OJ hi,List.set_getElem_self]
end
def outs (out:List (List Nat)) (v:Nat):List Nat:=gt out v
structure OutOk (l:List Pr) (out:List (List Nat)):Prop where
 ok:∀v i,i∈outs out v->i / 2<l.length/\tl l i=v/\hd l i<out.length
 all:∀i,i / 2<l.length->i∈outs out (tl l i)
structure Alike (l l':List Pr):Prop where
 len:l'.length=l.length
 hd:∀i,hd l' i=hd l i
 tl:∀i,tl l' i=tl l i
 cut:∀S,cut S l'=cut S l
 cap:∀i,i / 2<l.length->rm l' i+rm l' (tw i)=rm l i+rm l (tw i)
theorem Alike.refl {l:List Pr}:Alike l l:=⟨rfl,fun _=>rfl,fun _=>rfl,fun _=>rfl,fun _ _=>rfl⟩
theorem Alike.trans {l l' l'':List Pr} (h:Alike l l') (k:Alike l' l''):Alike l l'':=⟨k.len.trans h.len,fun i=>(k.hd i).trans (h.hd i),fun i=>(k.tl i).trans (h.tl i),fun S=>(k.cut S).trans (h.cut S),fun i hi=>(k.cap i (by rw [h.len];exact hi)).trans (h.cap i hi)⟩
theorem Alike.push {l:List Pr} {i:Nat} {d:Int} (hi:i / 2<l.length):Alike l (RB l i d):=⟨Mv ..,Ngt hi,Nfw hi,fun S=>Nwe hi,fun j a=>by
 rw [VZ hi,VZ hi]
 by_cases e1:j=i
 ·subst e1
  rw [Nk rfl,Nf (Nzt j),Nk rfl];omega
 ·rw [Nf e1]
  by_cases e2:j=tw i
  ·subst e2
   rw [Nk rfl,Nhg,Nk rfl];omega
  ·have e3:tw j≠i:=fun e=>e2 (by rw [<-e,Nhg])
   have e4:tw j≠tw i:=fun e=>e1 (by rw [<-Nhg j,e,Nhg])
   rw [Nf e2,Nf e3,Nf e4]⟩
theorem OutOk.alike {l l':List Pr} {out:List (List Nat)} (h:OutOk l out) (k:Alike l l'):OutOk l' out:=
 ⟨fun v i hi=>by rw [k.len,k.tl,k.hd];exact h.ok v i hi,fun i hi=>by rw [k.tl];rw [k.len] at hi;exact h.all i hi⟩
section
variable (out:List (List Nat)) (lv:Nat->Int)
inductive Alive (l:List Pr):Nat->Prop
 | fin:Alive l 1
 | arc {v i:Nat} (hi:i∈outs out v) (hr:0<rm l i) (hl:lv v<lv (hd l i)) (h:Alive l (hd l i)):Alive l v
def XH (l l':List Pr):Prop:=∀v i,i∈outs out v->lv v<lv (hd l i)->rm l' i<=rm l i
theorem Alive.less {l l':List Pr} (b:Alike l l') (hl:XH out lv l l') {v:Nat} (h:Alive out lv l' v):Alive out lv l v:=by
 induction h with
 | fin=>exact .fin
 | arc hi hr a _ ih=>
   rw [b.hd] at a ih
   exact .arc hi (by have:=hl _ _ hi a;omega) a ih
def Mf (l:List Pr) (v i:Nat):Prop:=¬(0<rm l i/\lv v<lv (hd l i)/\Alive out lv l (hd l i))
theorem Mf.less {l l':List Pr} (b:Alike l l') (hl:XH out lv l l') {v i:Nat} (hi:i∈outs out v) (h:Mf out lv l v i):Mf out lv l' v i:=fun ⟨h1,h2,a⟩=>by
 rw [b.hd] at h2 a
 exact h ⟨by have:=hl _ _ hi h2;omega,h2,a.less out lv b hl⟩
def Uz (l:List Pr) (nx:List Nat):Prop:=∀v k,k<gt nx v->k<(outs out v).length->Mf out lv l v (gt (outs out v) k)
theorem Uz.less {l l':List Pr} {nx:List Nat} (a:Alike l l') (hl:XH out lv l l') (h:Uz out lv l nx):Uz out lv l' nx:=fun v k h1 h2=>(h v k h1 h2).less out lv a hl (PK h2)
theorem XH.refl {l:List Pr}:XH out lv l l:=fun _ _ _ _=>Oa _
theorem XH.trans {l l' l'':List Pr} (a:Alike l l') (h:XH out lv l l') (k:XH out lv l' l''):XH out lv l l'':=fun v i hi hl=>Int.le_trans (k v i hi (by rw [a.hd];exact hl)) (h v i hi hl)
structure Mid (v:Nat) (g:Int) (l:List Pr) (nx:List Nat) (s:Int) (l':List Pr) (nx':List Nat):Prop where
 lo:0<=s
 lt:s<g
 same:Alike l l'
 nn:∀i,i / 2<l.length->0<=rm l' i
 exc:∀u,exc u l'=Flow.exc u l-(if u=v then s else 0)+(if u=1 then s else 0)
 less:XH out lv l l'
 zero:s=0->l'=l
 done:Uz out lv l' nx'
 nxlen:nx'.length=nx.length
 keep:∀u,lv u<lv v->gt nx' u=gt nx u
 keepR:∀u i,lv u<lv v->i∈outs out u->rm l' i=rm l i
 bnd:∀u,gt nx' u<=gt nx u\/gt nx' u<=(outs out u).length
structure Sent (v:Nat) (g:Int) (l:List Pr) (nx:List Nat) (s:Int) (l':List Pr) (nx':List Nat):Prop where
 lo:0<=s
 hi:s<=g
 same:Alike l l'
 nn:∀i,i / 2<l.length->0<=rm l' i
 exc:∀u,exc u l'=Flow.exc u l-(if u=v then s else 0)+(if u=1 then s else 0)
 less:XH out lv l l'
 zero:s=0->l'=l
 dead:s<g->¬Alive out lv l' v
 done:Uz out lv l' nx'
 nxlen:nx'.length=nx.length
 keep:∀u,lv u<lv v->gt nx' u=gt nx u
 keepR:∀u i,lv u<lv v->i∈outs out u->rm l' i=rm l i
 bnd:∀u,gt nx' u<=gt nx u\/gt nx' u<=(outs out u).length
theorem Mid.start {v:Nat} {g:Int} {l:List Pr} {nx:List Nat} (a:0<g) (hn:∀i,i / 2<l.length->0<=rm l i) (hd:Uz out lv l nx):Mid out lv v g l nx 0 l nx:=
 ⟨Oa _,a,.refl,hn,fun u=>by simp,XH.refl out lv,fun _=>rfl,hd,rfl,fun _ _=>rfl,fun _ _ _ _=>rfl,fun _=>.inl (Ng _)⟩
theorem Sent.fin {g:Int} {l:List Pr} {nx:List Nat} (a:0<=g) (hn:∀i,i / 2<l.length->0<=rm l i) (hd:Uz out lv l nx):Sent out lv 1 g l nx g l nx:=
 ⟨a,Oa _,.refl,hn,fun u=>by omega,XH.refl out lv,fun _=>rfl,fun h=>absurd h (by omega),hd,rfl,fun _ _=>rfl,fun _ _ _ _=>rfl,fun _=>.inl (Ng _)⟩
variable {out lv} {v:Nat} {g s:Int} {l l1:List Pr} {nx nx1:List Nat}
theorem Nff {l:List Pr} {nx:List Nat} {v k:Nat} (c:v<nx.length) (h:Uz out lv l nx) (e:gt nx v=k) (b:Mf out lv l v (gt (outs out v) k)):Uz out lv l (nx.set v (k+1)):=fun u j h1 h2=>by
 rw [gt_set c] at h1
 by_cases a:u=v
 ·subst a
  rw [Nk rfl] at h1
  rcases (by omega:j<k\/j=k) with d | rfl
  ·exact h u j (by omega) h2
  ·exact b
 ·rw [Nf a] at h1
  exact h u j h1 h2
theorem Mid.skip (h:Mid out lv v g l nx s l1 nx1) {k:Nat} (d:v<nx.length) (f:gt nx1 v=k) (i:k<(outs out v).length) (c:¬(0<rm l1 (gt (outs out v) k)/\lv v<lv (hd l1 (gt (outs out v) k)))):Mid out lv v g l nx s l1 (nx1.set v (k+1)):=
 { h with
   done:=Nff (by rw [h.nxlen];exact d) h.done f fun ⟨a,b,_⟩=>c ⟨a,b⟩
   nxlen:=by rw [Pd];exact h.nxlen
   keep:=fun u c=>by
    rw [gt_set (by rw [h.nxlen];exact d),Nf (fun e=>by subst e;omega)];exact h.keep u c
   bnd:=fun u=>by
    rw [gt_set (by rw [h.nxlen];exact d)]
    by_cases e:u=v
    ·subst e;rw [Nk rfl];right;omega
    ·rw [Nf e];exact h.bnd u }
theorem Mid.stop (h:Mid out lv v g l nx s l1 nx1) (d:v≠1) (f:(outs out v).length<=gt nx1 v):Sent out lv v g l nx s l1 nx1:=
 ⟨h.lo,Int.le_of_lt h.lt,h.same,h.nn,h.exc,h.less,h.zero,fun _ b=>by
  cases b with
  | fin=>exact d rfl
  | arc hi hr hl c=>
    obtain ⟨k,a,e⟩:=List.mem_iff_getElem.mp hi
    have:=h.done v k (by omega) a
    rw [OJ a,e] at this
    exact this ⟨hr,hl,c⟩,h.done,h.nxlen,h.keep,h.keepR,h.bnd⟩
theorem Mid.take (h:Mid out lv v g l nx s l1 nx1) (ho:OutOk l out) {k i:Nat} (R:v<nx.length) (hk:gt nx1 v=k) (P:k<(outs out v).length) (hi:gt (outs out v) k=i) (hr:0<rm l1 i) (K:lv v<lv (hd l1 i)) {d:Int} {m:List Pr} {o:List Nat}
  (hS:Sent out lv (hd l1 i) (min (g-s) (rm l1 i)) l1 nx1 d m o) :
  (s+d=g->Sent out lv v g l nx g (RB m i d) o)/\(s+d≠g->Mid out lv v g l nx (s+d) (RB m i d) (o.set v (k+1)))/\d<=g-s/\0<=d/\rm m i=rm l1 i:=by
 have I:i∈outs out v:=by rw [<-hi];exact PK P
 have L:=ho.alike h.same
 obtain ⟨q1,q2,q3⟩:=L.ok v i I
 have f:i / 2<m.length:=by rw [hS.same.len];exact q1
 have J:l1.length=l.length:=h.same.len
 have ad:m.length=l.length:=hS.same.len.trans J
 have D:rm m i=rm l1 i:=hS.keepR v i K I
 have aa:=hS.hi
 have Q:=hS.lo
 have W:=h.lo
 have X:=h.lt
 have Z:d<=g-s/\d<=rm l1 i:=by omega
 have E:=(h.same.trans hS.same)
 have z:Alike l (RB m i d):=E.trans (.push f)
 have F:tl m i=v:=by rw [hS.same.tl];exact q2
 have A:hd m i=hd l1 i:=hS.same.hd i
 have N:∀j,j / 2<l.length->0<=rm (RB m i d) j:=fun j hj=>by
  have ac:=hS.nn j (by rw [J];exact hj)
  rw [VZ f]
  split
  ·rw [D];omega
  ·split<;>omega
 have M:OutOk m out:=L.alike hS.same
 have n:XH out lv m (RB m i d):=fun u a H hl=>by
  rw [VZ f]
  by_cases e1:a=i
  ·subst e1;rw [Nk rfl];omega
  ·rw [Nf e1]
   by_cases e2:a=tw i
   ·exfalso
    subst e2
    have V:=(M.ok u _ H).2.1
    rw [Nmt] at V
    rw [Nvt,F,<-V,A] at hl
    omega
   ·rw [Nf e2];exact Oa _
 have B:XH out lv l1 (RB m i d):=XH.trans out lv hS.same hS.less n
 have x:XH out lv l (RB m i d):=XH.trans out lv h.same h.less B
 have r:Uz out lv (RB m i d) o:=hS.done.less out lv (.push f) n
 have t:∀u,Flow.exc u (RB m i d)=Flow.exc u l-(if u=v then s+d else 0)+(if u=1 then s+d else 0):=fun u=>by
  rw [Nje f,hS.exc u,h.exc u,A,F]
  by_cases S:u=v<;>by_cases T:u=1<;>by_cases U:u=hd l1 i
  all_goals
   have b1:(v=u)=(u=v):=propext ⟨Rs,Rs⟩
   have Y:(hd l1 i=u)=(u=hd l1 i):=propext ⟨Rs,Rs⟩
   simp only [b1,Y,S,T,U,if_true,if_false]
  all_goals (try simp only [S,T,U,if_true,if_false])
  all_goals (first | omega | skip)
 have p:s+d=0->RB m i d=l:=fun e=>by
  have e1:s=0:=by omega
  have e2:d=0:=by omega
  subst e2
  rw [Npe f,hS.zero rfl,h.zero e1]
 have w:∀u,lv u<lv v->gt o u=gt nx u:=fun u G=>(hS.keep u (by omega)).trans (h.keep u G)
 have q:∀u a,lv u<lv v->a∈outs out u->rm (RB m i d) a=rm l a:=fun u a G H=>by
  have e0:=(M.ok u a H).2.1
  rw [VZ f,Nf (fun e=>by subst e;rw [F] at e0;subst e0;omega),Nf (fun e=>by subst e;rw [Nmt,A] at e0;rw [<-e0] at G;omega),hS.keepR u a (by omega) H,h.keepR u a G H]
 have y:o.length=nx.length:=hS.nxlen.trans h.nxlen
 have C:∀u,gt o u<=gt nx u\/gt o u<=(outs out u).length:=fun u=>by
  have:=hS.bnd u
  have:=h.bnd u
  omega
 have O:gt o v=k:=(hS.keep v K).trans hk
 refine ⟨fun e=>?_,fun e=>?_,Z.1,Q,D⟩
 ·rw [e] at t p
  exact ⟨by omega,Oa _,z,N,t,x,p,fun hh=>absurd hh (by omega),r,y,w,q,C⟩
 ·refine ⟨by omega,by omega,z,N,t,x,p,Nff (by rw [y];exact R) r O ?_,by rw [Pd];exact y,fun u G=>?_,q,fun u=>?_⟩
  ·rw [hi]
   intro ⟨a,b,c⟩
   rw [VZ f,Nk rfl,D] at a
   have:¬Alive out lv m (hd l1 i):=hS.dead (by omega)
   rw [Ngt f,A] at c
   exact this (c.less out lv (.push f) n)
  ·rw [gt_set (by rw [y];exact R),Nf (fun e=>by subst e;omega)];exact w u G
  ·rw [gt_set (by rw [y];exact R)]
   by_cases e:u=v
   ·subst e;rw [Nk rfl];right;omega
   ·rw [Nf e];exact C u
theorem Sent.pos {s':Int} {l':List Pr} {nx':List Nat} (h:Sent out lv v g l nx s' l' nx') (c:0<g) (b:Alive out lv l v):0<s':=by
 have:=h.lo
 apply Ns
 intro hn
 have a:s'=0:=by omega
 have:=h.dead (by omega)
 rw [h.zero a] at this
 exact this b
theorem X8 (a:∀v,v≠0->0<=lv v->∃u i,i∈outs out u/\hd l i=v/\0<rm l i/\0<=lv u/\lv v=lv u+1):∀(m:Nat) (v:Nat),lv v=m->Alive out lv l v->Alive out lv l 0
 | 0,v,hv,ha=>by
   by_cases h:v=0
   ·subst h;exact ha
   ·obtain ⟨u,i,_,_,_,c,d⟩:=a v h (by omega)
    omega
 | m+1,v,hv,ha=>by
   by_cases h:v=0
   ·subst h;exact ha
   ·obtain ⟨u,i,h1,h2,b,c,d⟩:=a v h (by omega)
    exact X8 a m u (by omega) (.arc h1 b (by rw [h2];omega) (by rw [h2];exact ha))
end
end Go.Flow


namespace Go.Flow
open Go.AM Go.Net
structure Src where
 pl:Int
 rd:Int
 gr:Int
 deriving DecidableEq,Inhabited
def late (T:Int->Option Int) (p t:Int):Bool:=match T p with
 | some u=>decide (t<u)
 | none=>true
def wS (T:Int->Option Int) (dl:Int):List Src->Int
 | []=>0
 | x::s=>(if x.rd<=dl/\late T x.pl x.rd=true then x.gr else 0)+wS T dl s
def wC (T:Int->Option Int):List (Leg×Int)->Int
 | []=>0
 | c::C=>(if late T c.1.frm (c.2-c.1.cut)=false/\late T c.1.dst (c.2+c.1.mins)=true then c.1.grams else 0)+wC T C
def wt (T:Int->Option Int) (s:List Src) (C:List (Leg×Int)) (dl:Int):Int:=wS T dl s+wC T C
structure BestC (s:List Src) (C:List (Leg×Int)) (to dl:Int) (T:Int->Option Int) (v:Int):Prop where
 no:T to=none
 le:∀U,U to=none->v<=wt U s C dl
 eq:wt T s C dl=v
 first:∀U,U to=none->wt U s C dl=v->∀p t,T p=some t->∃u,U p=some u/\u<=t
theorem BestC.uniq {s:List Src} {C:List (Leg×Int)} {to dl:Int} {T U:Int->Option Int} {v w:Int} (h:BestC s C to dl T v) (k:BestC s C to dl U w):v=w/\∀p,T p=U p:=by
 have e:v=w:=by
  have h1:=h.le U k.no
  have h2:=k.le T h.no
  rw [k.eq] at h1
  rw [h.eq] at h2
  omega
 subst e
 refine ⟨rfl,fun p=>?_⟩
 cases hT:T p with
 | none=>
   cases hU:U p with
   | none=>rfl
   | some t=>
     obtain ⟨u,b,_⟩:=k.first T h.no h.eq p t hU
     rw [hT] at b;cases b
 | some t=>
   obtain ⟨u,b,h1⟩:=h.first U k.no k.eq p t hT
   obtain ⟨c,a,h2⟩:=k.first T h.no h.eq p u b
   rw [hT] at a;cases a
   rw [b,show t=u by omega]
def VW:Int:=1152921504606846976
def PV (PL:List (Int×Int)) (to p t:Int):Nat:=if p=to then 1 else PL.idxOf (p,t)+2
def PG:List (Int×Int)->Nat->List Pr
 | a::b::l,i=>(if a.1=b.1 then [⟨i+1,i,VW,0⟩] else [])++PG (b::l) (i+1)
 | _,_=>[]
def Sj (PL:List (Int×Int)) (to dl:Int):List Src->List Pr
 | []=>[]
 | x::s=>if x.rd<=dl then ⟨PV PL to x.pl x.rd,0,x.gr,0⟩::Sj PL to dl s else Sj PL to dl s
def Tu (PL:List (Int×Int)) (to:Int) (C:List (Leg×Int)):List Pr:=C.map fun c=>⟨PV PL to c.1.dst (c.2+c.1.mins),PV PL to c.1.frm (c.2-c.1.cut),c.1.grams,0⟩
def RO (PL:List (Int×Int)) (to dl:Int) (s:List Src) (C:List (Leg×Int)):List Pr:=PG PL 2++Sj PL to dl s++Tu PL to C
def Vm (a b:Int×Int):Prop:=a.1<b.1\/a.1=b.1/\a.2<b.2
structure PlOk (PL:List (Int×Int)) (to dl:Int) (s:List Src) (C:List (Leg×Int)):Prop where
 lt:PL.Pairwise Vm
 no:∀x∈PL,x.1≠to
 src:∀x∈s,x.rd<=dl->x.pl≠to->(x.pl,x.rd)∈PL
 from':∀c∈C,c.1.frm≠to/\(c.1.frm,c.2-c.1.cut)∈PL
 dest:∀c∈C,c.1.dst≠to->(c.1.dst,c.2+c.1.mins)∈PL
def YU (PL:List (Int×Int)) (T:Int->Option Int) (v:Nat):Bool:=match v with
 | 0=>true
 | 1=>false
 | i+2=>decide (i<PL.length)&&!late T (gt PL i).1 (gt PL i).2
theorem VB {PL:List (Int×Int)} {to p t:Int} (h:p≠to) (a:(p,t)∈PL):PV PL to p t=PL.idxOf (p,t)+2/\PL.idxOf (p,t)<PL.length/\gt PL (PL.idxOf (p,t))=(p,t):=by
 have hi:=List.idxOf_lt_length_iff.mpr a
 exact ⟨Nf h,hi,by rw [OJ hi,Qs]⟩
theorem Mr {PL:List (Int×Int)} {to p t:Int} {T:Int->Option Int} (b:T to=none) (c:p≠to->(p,t)∈PL):YU PL T (PV PL to p t)=!late T p t:=by
 by_cases h:p=to
 ·subst h
  unfold PV late
  rw [Nk rfl,b];rfl
 ·obtain ⟨h1,h2,a⟩:=VB h (c h)
  rw [h1]
  show (decide (PL.idxOf (p,t)<PL.length)&&!late T (gt PL (PL.idxOf (p,t))).1 (gt PL (PL.idxOf (p,t))).2)=_
  rw [a,No h2];rfl
theorem Nfh {T:Int->Option Int} {PL0:List (Int×Int)}:∀(PL:List (Int×Int)) (i:Nat),PL.Pairwise Vm->(∀j,j<PL.length->i+j<PL0.length/\gt PL0 (i+j)=gt PL j)->cut (YU PL0 T) (PG PL (i+2))=0
 | [],i,_,_=>rfl
 | [a],i,_,_=>rfl
 | a::b::PL,i,h,hg=>by
   obtain ⟨h1,h2⟩:=List.pairwise_cons.mp h
   unfold PG
   rw [Xo]
   have ih:=Nfh (T:=T) (PL0:=PL0) (b::PL) (i+1) h2 fun j l=>by
    have:=hg (j+1) (by simpa using l)
    rw [OT,show i+(j+1)=i+1+j by omega] at this
    exact this
   rw [show i+1+2=i+2+1 by omega] at ih
   rw [ih]
   by_cases c:a.1=b.1
   ·rw [Nk c]
    have d:=hg 0 (by simp)
    have f:=hg 1 (by simp)
    have e:Vm a b:=h1 b Nm
    rw [Oj] at d
    have g:gt PL0 i=a:=d.2
    have k:gt PL0 (i+1)=b:=f.2
    have sa:YU PL0 T (i+2)=!late T a.1 a.2:=by
     show (decide (i<PL0.length)&&!late T (gt PL0 i).1 (gt PL0 i).2)=_
     rw [g,No d.1];rfl
    have m:YU PL0 T (i+2+1)=!late T b.1 b.2:=by
     show (decide (i+1<PL0.length)&&!late T (gt PL0 (i+1)).1 (gt PL0 (i+1)).2)=_
     rw [k,No f.1];rfl
    simp only [cut,sa,m]
    have:late T a.1 a.2=false->late T b.1 b.2=false:=fun hl=>by
     unfold late at hl⊢
     rw [<-c]
     split at hl
     ·rename_i u n
      simp only [decide_eq_false_iff_not] at hl⊢
      unfold Vm at e;omega
     ·cases hl
    cases hl:late T a.1 a.2
    ·rw [this hl];simp
    ·simp
   ·rw [Nf c];simp [cut]
theorem Nmv {PL:List (Int×Int)} {to dl:Int} {T:Int->Option Int} (a:T to=none):∀{s:List Src},(∀x∈s,x.rd<=dl->x.pl≠to->(x.pl,x.rd)∈PL)->cut (YU PL T) (Sj PL to dl s)=wS T dl s
 | [],_=>rfl
 | x::s,h=>by
   have ih:=Nmv a (s:=s) fun y b=>h y (Nh _ b)
   unfold Sj wS
   by_cases hr:x.rd<=dl
   ·rw [Nk hr]
    simp only [cut,ih,Mr a (h x Nm hr),hr,Rt]
    cases hl:late T x.pl x.rd
    ·simp
    ·simp [YU]
   ·rw [Nf hr,Nf fun h=>hr h.1,ih];omega
theorem Nml {PL:List (Int×Int)} {to:Int} {T:Int->Option Int} (a:T to=none):∀{C:List (Leg×Int)},(∀c∈C,(c.1.frm≠to/\(c.1.frm,c.2-c.1.cut)∈PL)/\(c.1.dst≠to->(c.1.dst,c.2+c.1.mins)∈PL))->cut (YU PL T) (Tu PL to C)=wC T C
 | [],_=>rfl
 | c::C,h=>by
   have ih:=Nml a (C:=C) fun y b=>h y (Nh _ b)
   obtain ⟨h1,h2⟩:=h c Nm
   unfold Tu at ih⊢
   unfold wC
   simp only [Pi,cut,ih,Mr a (fun _=>h1.2),Mr a h2]
   cases late T c.1.frm (c.2-c.1.cut)<;>cases late T c.1.dst (c.2+c.1.mins)<;>simp
theorem MF {PL:List (Int×Int)} {to dl:Int} {s:List Src} {C:List (Leg×Int)} {T:Int->Option Int} (a:T to=none) (h:PlOk PL to dl s C):cut (YU PL T) (RO PL to dl s C)=wt T s C dl:=by
 unfold RO wt
 rw [Xo,Xo,Nfh PL 0 h.lt (fun j b=>by rw [N0];exact ⟨b,rfl⟩),Nmv a h.src,Nml a fun c hc=>⟨h.from' c hc,h.dest c hc⟩]
 omega
def firstT (lv:Nat->Int):List (Int×Int)->Nat->Int->Option Int
 | [],_,_=>none
 | x::PL,i,p=>if x.1=p/\0<=lv i then some x.2 else firstT lv PL (i+1) p
theorem Vj {lv:Nat->Int} {p t:Int}:∀{PL:List (Int×Int)} {i:Nat},firstT lv PL i p=some t->∃j,j<PL.length/\gt PL j=(p,t)/\0<=lv (i+j)
 | [],i,h=>by cases h
 | x::PL,i,h=>by
   unfold firstT at h
   split at h
   ·rename_i hc
    cases h
    exact ⟨0,by simp,by show x=(p,x.2);rw [<-hc.1],by rw [Oj];exact hc.2⟩
   ·obtain ⟨j,h1,h2,a⟩:=Vj h
    exact ⟨j+1,by simp;omega,by rw [OT];exact h2,by rw [show i+(j+1)=i+1+j by omega];exact a⟩
theorem Nfc {lv:Nat->Int} {p:Int}:∀{PL:List (Int×Int)} {i j:Nat},PL.Pairwise Vm->j<PL.length->(gt PL j).1=p->0<=lv (i+j)->∃t,firstT lv PL i p=some t/\t<=(gt PL j).2
 | [],i,j,_,h,_,_=>by simp at h
 | x::PL,i,0,_,_,h1,h2=>by
   refine ⟨x.2, ?_,Oa _⟩
   unfold firstT
   rw [Nk ⟨h1,h2⟩]
 | x::PL,i,j+1,hp,hj,h1,h2=>by
   obtain ⟨q1,q2⟩:=List.pairwise_cons.mp hp
   rw [OT] at h1⊢
   have a:j<PL.length:=by simpa using hj
   unfold firstT
   split
   ·rename_i hc
    refine ⟨x.2,rfl, ?_⟩
    have:=q1 _ (PK a)
    unfold Vm at this
    have:=hc.1
    omega
   ·exact Nfc q2 a h1 (by rw [show i+1+j=i+(j+1) by omega];exact h2)
theorem Nzd {PL:List (Int×Int)} {to dl:Int} {s:List Src} {C:List (Leg×Int)} {l:List Pr} {lv:Nat->Int} (h:PlOk PL to dl s C) (K:Alike (RO PL to dl s C) l) (x:IsFlow (PL.length+2) l)
  (J:0<=lv 0) (h1:lv 1<0) (hc:∀p∈l,(0<=lv p.tail->lv p.head<0->p.room=0)/\(lv p.tail<0->0<=lv p.head->p.flow=0))
  (e:∀S:Nat->Bool,S 0=true->Closed S l->∀v,v<PL.length+2->0<=lv v->S v=true)
  (r:∀i,i+1<PL.length->(gt PL i).1=(gt PL (i+1)).1->0<=lv (i+2)->0<=lv (i+3)) :
  BestC s C to dl (firstT lv PL 2) (exc 1 l):=by
 have q:firstT lv PL 2 to=none:=by
  cases hf:firstT lv PL 2 to with
  | none=>rfl
  | some t=>
    obtain ⟨j,o,m,_⟩:=Vj hf
    have:=h.no _ (PK o)
    rw [m] at this
    exact absurd rfl this
 have c:∀U,U to=none->cut (YU PL U) l=wt U s C dl:=fun U n=>by rw [K.cut,MF n h]
 have up:∀(k i:Nat),i+k<PL.length->(gt PL i).1=(gt PL (i+k)).1->0<=lv (i+2)->0<=lv (i+k+2):=by
  intro k
  induction k with
  | zero=>intro i _ _ h2;exact h2
  | succ k ih=>
    intro i hi he hl
    have d:=N5.mp h.lt
    have e1:=d i (i+k+1) (by omega) (by omega) (by omega)
    by_cases B:k=0
    ·subst B
     exact r i (by omega) he hl
    have e2:=d i (i+k) (by omega) (by omega) (by omega)
    have e3:=d (i+k) (i+k+1) (by omega) (by omega) (by omega)
    rw [OJ (by omega),OJ (by omega)] at he
    have E:(PL[i]'(by omega)).1=(PL[i+k]'(by omega)).1:=by
     have L:(PL[i]'(by omega)).1=(PL[i+k+1]'(by omega)).1:=he
     unfold Vm at e1 e2 e3;omega
    have:=ih i (by omega) (by rw [OJ (by omega),OJ (by omega)];exact E) hl
    refine r (i+k) (by omega) ?_ this
    rw [OJ (by omega),OJ (by omega)]
    exact E.symm.trans he
 have f:∀v,v<PL.length+2->YU PL (firstT lv PL 2) v=decide (0<=lv v):=fun v F=>by
  match v,F with
  | 0,_=>simp [YU,J]
  | 1,_=>simp [YU];omega
  | i+2,F=>
    have hi:i<PL.length:=by omega
    show (decide (i<PL.length)&&!late (firstT lv PL 2) (gt PL i).1 (gt PL i).2)=_
    rw [No hi,Bool.true_and]
    by_cases hl:0<=lv (i+2)
    ·obtain ⟨t,D,O⟩:=Nfc (p:=(gt PL i).1) h.lt hi rfl (by rw [Qk];exact hl)
     rw [No hl]
     unfold late
     rw [D]
     simp;omega
    ·rw [Nx hl]
     cases hf:firstT lv PL 2 (gt PL i).1 with
     | none=>unfold late;rw [hf];rfl
     | some t=>
       obtain ⟨j,o,m,g⟩:=Vj hf
       unfold late
       rw [hf]
       simp only [Bool.not_eq_false',N3]
       apply Ns
       intro hn
       have N:(gt PL j).2=t:=by rw [m]
       have A:(gt PL j).1=(gt PL i).1:=by rw [m]
       have d:=N5.mp h.lt
       have M:j<=i:=by
        apply Ns
        intro P
        have:=d i j hi o (by omega)
        rw [<-OJ hi,<-OJ o] at this
        unfold Vm at this
        omega
       have:=up (i-j) j (by omega) (by rw [show j+(i-j)=i by omega];exact A) (by rw [Qk];exact g)
       rw [show j+(i-j)+2=i+2 by omega] at this
       exact hl this
 refine ⟨q,fun U n=>?_, ?_,fun U n he p t D=>?_⟩
 ·rw [<-c U n]
  exact x.le_cut rfl rfl
 ·rw [<-c _ q]
  refine (x.eq_cut rfl rfl fun p hp=>?_).symm
  obtain ⟨b1,G⟩:=x.lt p hp
  obtain ⟨H,I⟩:=hc p hp
  rw [f _ b1,f _ G]
  exact ⟨fun a b=>H (by simpa using a) (by simpa using b),fun a b=>I (by simpa using a) (by simpa using b)⟩
 ·have z:=x.closed (S:=YU PL U) rfl rfl ((c U n).trans he).symm
  obtain ⟨j,o,m,g⟩:=Vj D
  have:=e _ rfl z (j+2) (by omega) (by rw [Qk];exact g)
  have y:(decide (j<PL.length)&&!late U (gt PL j).1 (gt PL j).2)=true:=this
  rw [m] at y
  simp only [N9,Bool.not_eq_true'] at y
  have w:=y.2
  unfold late at w
  split at w
  ·rename_i u Q
   exact ⟨u,Q,by simpa using w⟩
  ·cases w
def UQ (l:Leg) (dl:Int) (d:Nat):List (Leg×Int):=if goes l d=true/\max 0 (dl-20160)<=1440*(d:Int)+l.dep/\1440*(d:Int)+l.dep+l.mins<=dl then [(l,1440*(d:Int)+l.dep)] else []
def Nlk (l:Leg) (dl:Int):List (Leg×Int):=(List.range (dl / 1440+1).toNat).flatMap (UQ l dl)
def Xe (to dl:Int) (l:Leg):List (Leg×Int):=if l.frm=to then [] else Nlk l dl
def NP (L:List Leg) (to dl:Int):List (Leg×Int):=L.flatMap (Xe to dl)
theorem Nc1 {l:Leg} {dl:Int} {d:Nat} {c:Leg×Int} (h:c∈UQ l dl d):c=(l,1440*(d:Int)+l.dep)/\goes l d=true/\max 0 (dl-20160)<=1440*(d:Int)+l.dep/\1440*(d:Int)+l.dep+l.mins<=dl:=by
 unfold UQ at h
 split at h
 ·rename_i hc
  rw [Ni] at h
  exact ⟨h,hc⟩
 ·cases h
theorem Ncl {l:Leg} {dl:Int} {c:Leg×Int} (h:c∈Nlk l dl):c.1=l/\∃d:Nat,goes l d=true/\c.2=1440*(d:Int)+l.dep/\max 0 (dl-20160)<=c.2/\c.2+l.mins<=dl:=by
 obtain ⟨d,hd,hc⟩:=List.mem_flatMap.1 h
 obtain ⟨rfl,h1,h2,a⟩:=Nc1 hc
 exact ⟨rfl,d,h1,rfl,h2,a⟩
theorem QT {L:List Leg} {to dl:Int} {c:Leg×Int} (h:c∈NP L to dl):c.1∈L/\c.1.frm≠to/\∃d:Nat,goes c.1 d=true/\c.2=1440*(d:Int)+c.1.dep/\max 0 (dl-20160)<=c.2/\c.2+c.1.mins<=dl:=by
 obtain ⟨l,hl,hc⟩:=List.mem_flatMap.1 h
 unfold Xe at hc
 split at hc
 ·cases hc
 ·rename_i a
  obtain ⟨rfl,h1⟩:=Ncl hc
  exact ⟨hl,a,h1⟩
theorem Nc2 {l:Leg} {dl:Int} {d:Nat} (hl:Fine l) (h:(d:Int)<max 0 (dl-20160) / 1440):UQ l dl d=[]:=by
 unfold UQ
 refine Nf fun ⟨_,h1,_⟩=>?_
 unfold Fine at hl;omega
theorem window {f:Nat->List (Leg×Int)} {d0:Nat} (h1:∀d,(f d).length<=1) (h2:∀d,f d≠[]->d0<=d/\d<d0+14):∀n,((List.range n).flatMap f).length<=14/\((List.range n).flatMap f).length<=n-d0
 | 0=>by simp
 | n+1=>by
   obtain ⟨a,b⟩:=window h1 h2 n
   rw [Ra,Pc,Nb,N2,Qz,Na]
   have:=h1 n
   by_cases he:f n=[]
   ·rw [he,Nl];omega
   ·have:=h2 n he;omega
theorem Nt6 {l:Leg} {dl:Int} (hl:Fine l):(Nlk l dl).length<=14:=by
 refine (window (d0:=((dl-20160-l.dep+1439) / 1440).toNat) (fun d=>?_) (fun d hd=>?_) _).1
 ·unfold UQ;split<;>simp
 ·unfold UQ at hd
  split at hd
  case isFalse=>exact absurd rfl hd
  rename_i hc
  unfold Fine at hl
  omega
def tS (T:Int->Option Int) (dl:Int) (x:Src):Int:=if x.rd<=dl/\late T x.pl x.rd=true then x.gr else 0
def tC (T:Int->Option Int) (c:Leg×Int):Int:=if late T c.1.frm (c.2-c.1.cut)=false/\late T c.1.dst (c.2+c.1.mins)=true then c.1.grams else 0
theorem Nfu {T:Int->Option Int} {dl:Int} {x:Src} {s:List Src}:wS T dl (x::s)=tS T dl x+wS T dl s:=rfl
theorem SY {T:Int->Option Int} {c:Leg×Int} {C:List (Leg×Int)}:wC T (c::C)=tC T c+wC T C:=rfl
theorem Nsg {T:Int->Option Int}:∀{a b:List (Leg×Int)},wC T (a++b)=wC T a+wC T b
 | [],b=>by simp [wC]
 | x::a,b=>by rw [Oc,SY,SY,Nsg];omega
theorem Neg {T:Int->Option Int} {dl:Int}:∀{s:List Src},(∀x∈s,0<=x.gr)->0<=wS T dl s
 | [],_=>Oa _
 | x::s,h=>by
   have:=Neg (T:=T) (dl:=dl) (s:=s) fun y a=>h y (Nh _ a)
   have:=h x Nm
   rw [Nfu];unfold tS;split<;>omega
theorem Neh {T:Int->Option Int}:∀{C:List (Leg×Int)},(∀c∈C,0<=c.1.grams)->0<=wC T C
 | [],_=>Oa _
 | x::s,h=>by
   have:=Neh (T:=T) (C:=s) fun y a=>h y (Nh _ a)
   have:=h x Nm
   rw [SY];unfold tC;split<;>omega
def noT:Int->Option Int:=fun _=>none
theorem Nbm:∀{C:List (Leg×Int)},wC noT C=0
 | []=>rfl
 | x::s=>by rw [SY,Nbm];simp [tC,late,noT]
def ZY (s:List Src):Int:=Nyd (s.map (·.gr))
theorem Mi {T:Int->Option Int} {dl:Int}:∀{s:List Src},(∀x∈s,0<=x.gr)->wS T dl s<=ZY s
 | [],_=>Oa _
 | x::s,h=>by
   have:=Mi (T:=T) (dl:=dl) (s:=s) fun y a=>h y (Nh _ a)
   have:=h x Nm
   unfold ZY at this⊢
   unfold ZY at *
   rw [Nfu,Pi,Nyd]
   unfold tS;split<;>omega
section
variable {s t:List Src} {C D:List (Leg×Int)} {to dl v w:Int} {T U:Int->Option Int}
end
def RJ (L:List Int) (v:Nat):Int:=L.getD v (-1)
theorem Nni {L:List Int} {v u:Nat} {x:Int} (a:v<L.length):RJ (L.set v x) u=if u=v then x else RJ L u:=by
 unfold RJ
 rw [Nc,Nc]
 by_cases h:u=v
 ·subst h;rw [Nk rfl,Q8 a];rfl
 ·rw [Nf h,Qi (Ne.symm h)]
structure Bfs (l:List Pr) (out:List (List Nat)) (L:List Int) (q:List Nat) (u:Option Nat) (k:Nat):Prop where
 len:L.length=out.length
 zero:RJ L 0=0
 lo:∀v,-1<=RJ L v
 hi:∀v,RJ L v<out.length
 pre:∀v,v≠0->0<=RJ L v->∃u i,i∈outs out u/\hd l i=v/\0<rm l i/\0<=RJ L u/\RJ L v=RJ L u+1
 qin:∀v∈q,v<out.length/\0<=RJ L v
 cur:∀v,u=some v->v<out.length/\0<=RJ L v/\∀j,j<k->0<rm l (gt (outs out v) j)->0<=RJ L (hd l (gt (outs out v) j))
 closed:∀v i,0<=RJ L v->v∉q->u≠some v->i∈outs out v->0<rm l i->0<=RJ L (hd l i)
def UY (L:List Int):Nat:=(L.filter fun x=>decide (x<0)).length
theorem Nek:∀{L:List Int} {v:Nat} {x:Int},v<L.length->RJ L v<0->0<=x->UY (L.set v x)+1=UY L
 | a::L,0,x,_,h,hx=>by
   have b:a<0:=h
   unfold UY
   rw [Qr,Q7 (by simpa using hx),Q6 (by simpa using b),Nj]
 | a::L,v+1,x,hv,h,hx=>by
   have:=Nek (L:=L) (v:=v) (x:=x) (by simpa using hv) h hx
   unfold UY at this⊢
   rw [Ph]
   by_cases b:a<0
   ·rw [Q6 (by simpa using b),Q6 (by simpa using b),Nj,Nj];omega
   ·rw [Q7 (by simpa using b),Q7 (by simpa using b)];exact this
theorem Niw {l:List Pr} {out:List (List Nat)} {L:List Int} (zero:RJ L 0=0) (lo:∀v,-1<=RJ L v)
  (pre:∀v,v≠0->0<=RJ L v->∃u i,i∈outs out u/\hd l i=v/\0<rm l i/\0<=RJ L u/\RJ L v=RJ L u+1):∀(m:Nat) (v:Nat),RJ L v=m->∀j:Nat,j<=m->∃u,u<L.length/\RJ L u=j
 | m,v,hv,j,hj=>by
   have inr:∀u,0<=RJ L u->u<L.length:=fun u a=>by
    apply Ns;intro hn
    unfold RJ at a
    rw [Nc,N8 (by omega)] at a
    simp at a
   by_cases e:j=m
   ·subst e;exact ⟨v,inr v (by omega),hv⟩
   ·have b:v≠0:=fun h=>by subst h;omega
    obtain ⟨u,i,_,_,_,c,d⟩:=pre v b (by omega)
    exact Niw zero lo pre (m-1) u (by omega) j (by omega)
termination_by m=>m
decreasing_by omega
theorem Ntt {m:List Nat}:∀{l:List Nat},l.Nodup->(∀x∈l,x∈m)->l.length<=m.length:=by
 intro l
 induction l generalizing m with
 | nil=>intro _ _;exact Nv _
 | cons a l ih=>
   intro hn b
   rw [List.nodup_cons] at hn
   have h1:=b a (by simp)
   have h2:=ih (m:=m.erase a) hn.2 fun x c=>(List.mem_erase_of_ne (fun e=>hn.1 (by rw [<-e];exact c))).2 (b x (by simp [c]))
   rw [List.length_erase_of_mem h1] at h2
   have:=List.length_pos_of_mem h1
   simp only [Nj]
   omega
theorem Nt0 {l:List Pr} {out:List (List Nat)} {L:List Int} (zero:RJ L 0=0) (lo:∀v,-1<=RJ L v)
  (pre:∀v,v≠0->0<=RJ L v->∃u i,i∈outs out u/\hd l i=v/\0<rm l i/\0<=RJ L u/\RJ L v=RJ L u+1) (v:Nat):RJ L v<L.length:=by
 apply Ns
 intro hn
 obtain ⟨m,d⟩:∃m:Nat,RJ L v=m:=⟨(RJ L v).toNat,by omega⟩
 have hd:=Niw zero lo pre m v d
 have key:∀k,k<=m+1->∃us:List Nat,us.length=k/\us.Nodup/\∀u∈us,u<L.length/\RJ L u<k:=by
  intro k
  induction k with
  | zero=>intro _;exact ⟨[],rfl,List.nodup_nil,fun u a=>by cases a⟩
  | succ k ih=>
    intro f
    obtain ⟨us,h1,h2,b⟩:=ih (by omega)
    obtain ⟨u,c,e⟩:=hd k (by omega)
    refine ⟨u::us,by simp [h1],List.nodup_cons.2 ⟨fun a=>by have:=(b u a).2;omega,h2⟩,fun x hx=>?_⟩
    rcases Nu.1 hx with rfl | hx
    ·exact ⟨c,by omega⟩
    ·have:=b x hx;exact ⟨this.1,by omega⟩
 obtain ⟨us,h1,h2,b⟩:=key (m+1) (Ng _)
 have:=Ntt h2 (m:=List.range L.length) fun u a=>List.mem_range.2 (b u a).1
 rw [List.length_range] at this
 omega
theorem Bfs.start {l:List Pr} {out:List (List Nat)} (hn:2<=out.length):Bfs l out ((List.replicate out.length (-1)).set 0 0) [0] none 0:=by
 have e:∀v,RJ ((List.replicate out.length (-1)).set 0 0) v=if v=0 then 0 else -1:=fun v=>by
  rw [Nni (by simp;omega)]
  split
  ·rfl
  ·unfold RJ
   rw [Nc,P0];split<;>rfl
 refine ⟨by simp,by rw [e,Nk rfl],fun v=>by rw [e];split<;>omega,fun v=>by rw [e];split<;>omega,fun v b h1=>?_,fun v a=>?_,(fun v a=>by cases a),fun v i h1 h2 _ _ _=>?_⟩
 ·rw [e,Nf b] at h1;omega
 ·rw [Ni] at a
  subst a
  exact ⟨by omega,by rw [e,Nk rfl];omega⟩
 ·rw [e] at h1
  split at h1
  ·rename_i c;exact absurd (by rw [c];exact Rl 0) h2
  ·omega
theorem Bfs.pop {l:List Pr} {out:List (List Nat)} {L:List Int} {v:Nat} {q:List Nat} (h:Bfs l out L (v::q) none 0):Bfs l out L q (some v) 0:=
 { h with
   qin:=fun u a=>h.qin u (Nh _ a)
   cur:=fun u a=>by cases a;exact ⟨(h.qin v Nm).1,(h.qin v Nm).2,fun j e=>by omega⟩
   closed:=fun u i h1 h2 b c d=>h.closed u i h1 (fun hm=>by
    rcases Nu.1 hm with rfl | hm
    ·exact b rfl
    ·exact h2 hm) (by simp) c d }
theorem Bfs.next {l:List Pr} {out:List (List Nat)} {L:List Int} {v:Nat} {q:List Nat} {k:Nat} (h:Bfs l out L q (some v) k) (d:¬(0<rm l (gt (outs out v) k)/\RJ L (hd l (gt (outs out v) k))<0)):Bfs l out L q (some v) (k+1):=
 { h with
   cur:=fun u b=>by
    cases b
    obtain ⟨h1,h2,a⟩:=h.cur v rfl
    refine ⟨h1,h2,fun j c hr=>?_⟩
    rcases Om j k with hjk | hjk
    ·exact a j hjk hr
    ·obtain rfl:j=k:=by omega
     omega }
theorem Bfs.met {l:List Pr} {out:List (List Nat)} {L:List Int} {v:Nat} {q:List Nat} {k i:Nat} (ho:OutOk l out) (h:Bfs l out L q (some v) k) (p:k<(outs out v).length) (hi:gt (outs out v) k=i) (hr:0<rm l i) (hn:RJ L (hd l i)<0):Bfs l out (L.set (hd l i) (RJ L v+1)) (q++[hd l i]) (some v) (k+1):=by
 obtain ⟨B,z,C⟩:=h.cur v rfl
 have g:i∈outs out v:=by rw [<-hi];exact PK p
 obtain ⟨_,I,A⟩:=ho.ok v i g
 have m:hd l i<L.length:=by rw [h.len];exact A
 have e:∀u,RJ (L.set (hd l i) (RJ L v+1)) u=if u=hd l i then RJ L v+1 else RJ L u:=fun u=>Nni m
 have a:∀u,0<=RJ L u->0<=RJ (L.set (hd l i) (RJ L v+1)) u:=fun u hu=>by rw [e];split<;>omega
 have x:v≠hd l i:=fun f=>by rw [<-f] at hn;omega
 have o:0≠hd l i:=fun f=>by have:=h.zero;rw [<-f] at hn;omega
 have c:RJ (L.set (hd l i) (RJ L v+1)) 0=0:=by rw [e,Nf o];exact h.zero
 have n:∀u,-1<=RJ (L.set (hd l i) (RJ L v+1)) u:=fun u=>by rw [e];have:=h.lo u;split<;>omega
 have d:∀u,u≠0->0<=RJ (L.set (hd l i) (RJ L v+1)) u->∃w j,j∈outs out w/\hd l j=u/\0<rm l j/\0<=RJ (L.set (hd l i) (RJ L v+1)) w/\RJ (L.set (hd l i) (RJ L v+1)) u=RJ (L.set (hd l i) (RJ L v+1)) w+1:=fun u t hu=>by
  by_cases b:u=hd l i
  ·subst b
   exact ⟨v,i,g,rfl,hr,a v z,by rw [e,Nk rfl,e,Nf x]⟩
  ·rw [e,Nf b] at hu
   obtain ⟨w,j,p1,p2,p3,p4,p5⟩:=h.pre u t hu
   have y:w≠hd l i:=fun f=>by rw [f] at p4;omega
   exact ⟨w,j,p1,p2,p3,a w p4,by rw [e,Nf b,e,Nf y];exact p5⟩
 refine ⟨by rw [Pd];exact h.len,c,n,fun u=>?_,d,fun u hu=>?_,fun u hu=>?_,fun u j h1 h2 D E F=>?_⟩
 ·have:=Nt0 c n d u
  rw [Pd,h.len] at this
  exact this
 ·rcases Nw.1 hu with hu | hu
  ·exact ⟨(h.qin u hu).1,a u (h.qin u hu).2⟩
  ·rw [Ni] at hu
   subst hu
   exact ⟨A,by rw [e,Nk rfl];omega⟩
 ·cases hu
  refine ⟨B,a v z,fun j H s=>?_⟩
  rcases Om j k with hjk | hjk
  ·exact a _ (C j hjk s)
  ·obtain rfl:j=k:=by omega
   rw [hi,e,Nk rfl];omega
 ·have G:u∉q:=fun r=>h2 (Ny _ r)
  have b:u≠hd l i:=fun r=>h2 (by rw [r];exact N1 _ (Rl _))
  rw [e,Nf b] at h1
  exact a _ (h.closed u j h1 G D E F)
theorem Bfs.done {l:List Pr} {out:List (List Nat)} {L:List Int} {v:Nat} {q:List Nat} {k:Nat} (h:Bfs l out L q (some v) k) (f:(outs out v).length<=k):Bfs l out L q none 0:=
 { h with
   cur:=fun u a=>by cases a
   closed:=fun u i h1 h2 _ b c=>by
    by_cases a:u=v
    ·subst a
     obtain ⟨j,d,e⟩:=List.mem_iff_getElem.1 b
     have:=(h.cur u rfl).2.2 j (by omega)
     rw [OJ d,e] at this
     exact this c
    ·exact h.closed u i h1 h2 (fun e=>a (by cases e;rfl)) b c }
structure LevOk (l:List Pr) (out:List (List Nat)) (lv:Nat->Int):Prop where
 zero:lv 0=0
 pre:∀v,v≠0->0<=lv v->∃u i,i∈outs out u/\hd l i=v/\0<rm l i/\0<=lv u/\lv v=lv u+1
 closed:∀u i,0<=lv u->i∈outs out u->0<rm l i->0<=lv (hd l i)
theorem Bfs.end {l:List Pr} {out:List (List Nat)} {L:List Int} (h:Bfs l out L [] none 0):LevOk l out (RJ L):=
 ⟨h.zero,h.pre,fun u i h1 h2 a=>h.closed u i h1 (fun b=>by cases b) (fun e=>by cases e) h2 a⟩
theorem LevOk.alive {l:List Pr} {out:List (List Nat)} {lv:Nat->Int} (h:LevOk l out lv) (h1:0<=lv 1):Alive out lv l 0:=
 X8 h.pre (lv 1).toNat 1 (by omega) .fin
theorem LevOk.reach {l:List Pr} {out:List (List Nat)} {lv:Nat->Int} (h:LevOk l out lv) (ho:OutOk l out) {S:Nat->Bool} (g:S 0=true) (hc:Closed S l):∀(m v:Nat),lv v=m->S v=true
 | m,v,hv=>by
   by_cases e:v=0
   ·rw [e];exact g
   ·obtain ⟨u,i,p1,p2,p3,p4,p5⟩:=h.pre v e (by omega)
    match m,hv with
    | 0,hv=>omega
    | m+1,hv=>
      have j:=LevOk.reach h ho g hc m u (by omega)
      obtain ⟨k,b,n⟩:=ho.ok u i p1
      obtain ⟨d,f⟩:=hc (gt l (i / 2)) (PK k)
      apply Ns
      intro c
      rw [Bool.not_eq_true] at c
      unfold tl hd rm at *
      by_cases a:i % 2=0
      ·rw [Nk a] at p2 p3 b
       rw [p2,b] at d
       have:=d j c
       omega
      ·rw [Nf a] at p2 p3 b
       rw [p2,b] at f
       have:=f c j
       omega
theorem LevOk.pairs {l:List Pr} {out:List (List Nat)} {lv:Nat->Int} (h:LevOk l out lv) (ho:OutOk l out) (d:∀p∈l,0<=p.room/\0<=p.flow):∀p∈l,(0<=lv p.tail->lv p.head<0->p.room=0)/\(lv p.tail<0->0<=lv p.head->p.flow=0):=fun p hp=>by
 obtain ⟨k,m,rfl⟩:=List.mem_iff_getElem.1 hp
 obtain ⟨n,o⟩:=d _ hp
 have i:(2*k) / 2=k:=by omega
 have j:(2*k+1) / 2=k:=by omega
 have e:(2*k) % 2=0:=by omega
 have f:¬(2*k+1) % 2=0:=by omega
 have g:gt l k=l[k]:=OJ m
 have e1:=ho.all (2*k) (by omega)
 have e2:=ho.all (2*k+1) (by omega)
 have a:=h.closed (tl l (2*k)) (2*k)
 have b:=h.closed (tl l (2*k+1)) (2*k+1)
 unfold tl hd rm at *
 rw [i,Nk e,g] at e1 a
 rw [j,Nf f,g] at e2 b
 simp only [e,if_true] at a
 simp only [f,if_false] at b
 refine ⟨fun q1 q2=>?_,fun q1 q2=>?_⟩
 ·apply Ns;intro c
  have:=a q1 e1 (by omega)
  omega
 ·apply Ns;intro c
  have:=b q2 e2 (by omega)
  omega
theorem Yb {S:Nat->Bool}:∀{l:List Pr},(∀q∈l,0<=q.flow/\(S q.head=true->S q.tail=true))->0<=net S l/\∀p∈l,S p.tail=true->S p.head=false->p.flow<=net S l
 | [],_=>⟨Oa _,fun p hp=>by cases hp⟩
 | q::l,h=>by
   obtain ⟨d,b⟩:=Yb (S:=S) (l:=l) fun x a=>h x (Nh _ a)
   obtain ⟨h1,h2⟩:=h q Nm
   have c:0<=(if S q.tail then q.flow else 0)-(if S q.head then q.flow else 0):=by
    cases ht:S q.tail<;>cases hh:S q.head<;>simp
    ·rw [hh,ht] at h2;exact absurd (h2 rfl) (by decide)
    ·exact h1
   refine ⟨by simp only [net];omega,fun p hp q1 q2=>?_⟩
   rcases Nu.1 hp with rfl | hp
   ·simp only [net,q1,q2];simp;omega
   ·have:=b p hp q1 q2
    simp only [net];omega
def Vg (out:List (List Nat)) (f t i:Nat):List (List Nat):=(out.set f (gt out f++[i])).set t (gt (out.set f (gt out f++[i])) t++[i+1])
theorem WQ {out:List (List Nat)} {f t i:Nat}:(Vg out f t i).length=out.length:=by simp [Vg]
theorem Ne7 {out:List (List Nat)} {f t i v j:Nat} (a:f<out.length) (b:t<out.length):j∈outs (Vg out f t i) v↔j∈outs out v\/(v=f/\j=i)\/(v=t/\j=i+1):=by
 unfold outs Vg
 rw [gt_set (by simpa using b)]
 by_cases h1:v=t
 ·subst h1
  rw [Nk rfl,gt_set a]
  by_cases h2:v=f
  ·subst h2
   rw [Nk rfl];simp
  ·rw [Nf h2];simp [h2]
 ·rw [Nf h1,gt_set a]
  by_cases h2:v=f
  ·subst h2
   rw [Nk rfl];simp [h1]
  ·rw [Nf h2];simp [h1,h2]
theorem Nvw {l m:List Pr} {k:Nat} (h:k<l.length):gt (l++m) k=gt l k:=Tk h
theorem OutOk.join {l:List Pr} {out:List (List Nat)} {f t:Nat} {r:Int} (h:OutOk l out) (a:f<out.length) (b:t<out.length):OutOk (l++[⟨t,f,r,0⟩]) (Vg out f t (2*l.length)):=by
 have e0:∀i,i / 2<l.length->tl (l++[⟨t,f,r,0⟩]) i=tl l i/\hd (l++[⟨t,f,r,0⟩]) i=hd l i:=fun i hi=>by
  unfold tl hd
  rw [Nvw hi];exact ⟨rfl,rfl⟩
 have c:gt (l++[⟨t,f,r,0⟩]) l.length=⟨t,f,r,0⟩:=by
  have:=Ww (l:=l) (r:=[(⟨t,f,r,0⟩:Pr)]) (i:=0)
  rw [Oj] at this
  exact this
 have e1:tl (l++[⟨t,f,r,0⟩]) (2*l.length)=f/\hd (l++[⟨t,f,r,0⟩]) (2*l.length)=t:=by
  unfold tl hd
  rw [show 2*l.length / 2=l.length by omega,c,Nk (by omega),Nk (by omega)];exact ⟨rfl,rfl⟩
 have e2:tl (l++[⟨t,f,r,0⟩]) (2*l.length+1)=t/\hd (l++[⟨t,f,r,0⟩]) (2*l.length+1)=f:=by
  unfold tl hd
  rw [show (2*l.length+1) / 2=l.length by omega,c,Nf (by omega),Nf (by omega)];exact ⟨rfl,rfl⟩
 refine ⟨fun v i hi=>?_,fun i hi=>?_⟩
 ·rw [WQ,Nb,Ow]
  rcases (Ne7 a b).1 hi with hi | ⟨rfl,rfl⟩ | ⟨rfl,rfl⟩
  ·obtain ⟨h1,h2,d⟩:=h.ok v i hi
   rw [(e0 i h1).1,(e0 i h1).2]
   exact ⟨by omega,h2,d⟩
  ·rw [e1.1,e1.2];exact ⟨by omega,rfl,b⟩
  ·rw [e2.1,e2.2];exact ⟨by omega,rfl,a⟩
 ·rw [Nb,Ow] at hi
  refine (Ne7 a b).2 ?_
  rcases Om (i / 2) l.length with h1 | h1
  ·rw [(e0 i h1).1];exact .inl (h.all i h1)
  ·rcases (by omega:i=2*l.length\/i=2*l.length+1) with rfl | rfl
   ·rw [e1.1];exact .inr (.inl ⟨rfl,rfl⟩)
   ·rw [e2.1];exact .inr (.inr ⟨rfl,rfl⟩)
theorem OutOk.none {n:Nat}:OutOk [] (List.replicate n []):=by
 refine ⟨fun v i hi=>?_,fun i hi=>by simp at hi⟩
 unfold outs gt at hi
 rw [Nc,P0] at hi
 split at hi<;>cases hi
theorem Ye {v:Nat}:∀{l:List Pr},(∀p∈l,p.flow=0)->exc v l=0
 | [],_=>rfl
 | p::l,h=>by
   have:=Ye (v:=v) (l:=l) fun q a=>h q (Nh _ a)
   have:=h p Nm
   unfold exc;split<;>split<;>omega
theorem Un {p:Pr}:∀{PL:List (Int×Int)} {i:Nat},p∈PG PL i↔∃j,j+1<PL.length/\(gt PL j).1=(gt PL (j+1)).1/\p=⟨i+j+1,i+j,VW,0⟩
 | [],i=>by simp [PG]
 | [a],i=>by simp [PG]
 | a::b::l,i=>by
   unfold PG
   rw [Nw,Un (PL:=b::l) (i:=i+1)]
   constructor
   ·rintro (h | ⟨j,h1,h2,d⟩)
    ·split at h
     ·rename_i c
      rw [Ni] at h
      exact ⟨0,by simp,c,h⟩
     ·cases h
    ·exact ⟨j+1,by simp at h1⊢;omega,by rw [OT,OT];exact h2,by rw [d];congr 1<;>omega⟩
   ·rintro ⟨j,h1,h2,d⟩
    cases j with
    | zero=>
      have c:a.1=b.1:=h2
      exact .inl (by rw [Nk c,Ni];exact d)
    | succ j=>
      rw [OT,OT] at h2
      exact .inr ⟨j,by simp at h1⊢;omega,h2,by rw [d];congr 1<;>omega⟩
theorem XM {PL:List (Int×Int)} {to dl:Int} {p:Pr}:∀{s:List Src},p∈Sj PL to dl s↔∃x∈s,x.rd<=dl/\p=⟨PV PL to x.pl x.rd,0,x.gr,0⟩
 | []=>by simp [Sj]
 | x::s=>by
   unfold Sj
   by_cases hr:x.rd<=dl
   ·rw [Nk hr,Nu,XM (s:=s)]
    constructor
    ·rintro (h | ⟨y,h1,h2⟩)
     ·exact ⟨x,Nm,hr,h⟩
     ·exact ⟨y,Nh _ h1,h2⟩
    ·rintro ⟨y,h1,h2,a⟩
     rcases Nu.1 h1 with rfl | h1
     ·exact .inl a
     ·exact .inr ⟨y,h1,h2,a⟩
   ·rw [Nf hr,XM (s:=s)]
    constructor
    ·rintro ⟨y,h1,h2⟩
     exact ⟨y,Nh _ h1,h2⟩
    ·rintro ⟨y,h1,h2,a⟩
     rcases Nu.1 h1 with rfl | h1
     ·exact absurd h2 hr
     ·exact ⟨y,h1,h2,a⟩
theorem Nbl {PL:List (Int×Int)} {to:Int} {C:List (Leg×Int)} {p:Pr}:p∈Tu PL to C↔∃c∈C,p=⟨PV PL to c.1.dst (c.2+c.1.mins),PV PL to c.1.frm (c.2-c.1.cut),c.1.grams,0⟩:=by
 unfold Tu
 rw [List.mem_map]
 exact ⟨fun ⟨c,h1,h2⟩=>⟨c,h1,h2.symm⟩,fun ⟨c,h1,h2⟩=>⟨c,h1,h2.symm⟩⟩
theorem Zg {PL:List (Int×Int)} {to dl:Int} {s:List Src} {C:List (Leg×Int)} {p:Pr} (h:p∈RO PL to dl s C):p∈PG PL 2\/p∈Sj PL to dl s\/p∈Tu PL to C:=by
 unfold RO at h
 rcases Nw.1 h with h | h
 ·rcases Nw.1 h with h | h
  ·exact .inl h
  ·exact .inr (.inl h)
 ·exact .inr (.inr h)
section
variable {PL:List (Int×Int)} {to dl:Int} {s:List Src} {C:List (Leg×Int)}
theorem Ngg {p t:Int} (h:p≠to->(p,t)∈PL):PV PL to p t<PL.length+2/\1<=PV PL to p t:=by
 by_cases hp:p=to
 ·unfold PV;rw [Nk hp];omega
 ·obtain ⟨h1,h2,_⟩:=VB hp (h hp)
  omega
theorem TU (h:PlOk PL to dl s C) (b:∀x∈s,0<=x.gr) (a:∀c∈C,0<=c.1.grams) {p:Pr} (hp:p∈RO PL to dl s C):p.head<PL.length+2/\p.tail<PL.length+2/\0<=p.room/\p.flow=0:=by
 rcases Zg hp with hp | hp | hp
 ·obtain ⟨j,h1,_,rfl⟩:=Un.1 hp
  exact ⟨by show 2+j+1<_;omega,by show 2+j<_;omega,by show 0<=VW;decide,rfl⟩
 ·obtain ⟨x,h1,h2,rfl⟩:=XM.1 hp
  exact ⟨(Ngg (h.src x h1 h2)).1,by show 0<_;omega,b x h1,rfl⟩
 ·obtain ⟨c,h1,rfl⟩:=Nbl.1 hp
  exact ⟨(Ngg (h.dest c h1)).1,(Ngg fun _=>(h.from' c h1).2).1,a c h1,rfl⟩
theorem Ni7 (h:PlOk PL to dl s C) (b:∀x∈s,0<=x.gr) (a:∀c∈C,0<=c.1.grams):IsFlow (PL.length+2) (RO PL to dl s C):=
 ⟨by omega,fun p hp=>⟨(TU h b a hp).1,(TU h b a hp).2.1⟩,fun p hp=>⟨(TU h b a hp).2.2.1,by rw [(TU h b a hp).2.2.2];exact Oa _⟩,fun v _=>Ye fun p hp=>(TU h b a hp).2.2.2⟩
def upto (PL:List (Int×Int)) (t:Int) (v:Nat):Bool:=match v with
 | 0=>true
 | 1=>false
 | i+2=>decide (i<PL.length)&&decide ((gt PL i).2<=t)
theorem Nei {p t u:Int} (h:p≠to->(p,t)∈PL):upto PL u (PV PL to p t)=(decide (p≠to)&&decide (t<=u)):=by
 by_cases hp:p=to
 ·unfold PV;rw [Nk hp];simp [upto,hp]
 ·obtain ⟨h1,h2,a⟩:=VB hp (h hp)
  rw [h1]
  show (decide (PL.idxOf (p,t)<PL.length)&&decide ((gt PL (PL.idxOf (p,t))).2<=u))=_
  rw [a,No h2];simp [hp]
theorem Nlv (h:PlOk PL to dl s C) (d:∀c∈C,Fine c.1) {t:Int} {p:Pr} (hp:p∈RO PL to dl s C) (a:upto PL t p.head=true):upto PL t p.tail=true:=by
 rcases Zg hp with hp | hp | hp
 ·obtain ⟨j,h1,h2,rfl⟩:=Un.1 hp
  have e1:upto PL t (2+j+1)=(decide (j+1<PL.length)&&decide ((gt PL (j+1)).2<=t)):=by rw [show 2+j+1=j+1+2 by omega];rfl
  have e2:upto PL t (2+j)=(decide (j<PL.length)&&decide ((gt PL j).2<=t)):=by rw [show 2+j=j+2 by omega];rfl
  change upto PL t (2+j+1)=true at a
  show upto PL t (2+j)=true
  rw [e1] at a
  rw [e2]
  simp only [N9,N3] at a⊢
  have b:=(N5.mp h.lt) j (j+1) (by omega) h1 (by omega)
  rw [<-OJ (by omega),<-OJ h1] at b
  unfold Vm at b
  omega
 ·obtain ⟨x,h1,h2,rfl⟩:=XM.1 hp
  rfl
 ·obtain ⟨c,h1,rfl⟩:=Nbl.1 hp
  change upto PL t (PV PL to c.1.dst (c.2+c.1.mins))=true at a
  show upto PL t (PV PL to c.1.frm (c.2-c.1.cut))=true
  rw [Nei (h.dest c h1)] at a
  rw [Nei fun _=>(h.from' c h1).2]
  have e:=d c h1
  unfold Fine at e
  simp only [N9,N3] at a⊢
  exact ⟨(h.from' c h1).1,by omega⟩
theorem Nsq {l:List Pr} {lv:Nat->Int} {out:List (List Nat)} (h:PlOk PL to dl s C) (a:Alike (RO PL to dl s C) l) (e:IsFlow (PL.length+2) l) (ho:OutOk l out) (hl:LevOk l out lv) (h1:lv 1<0) (M:∀x∈s,0<=x.gr) (J:∀c∈C,Fine c.1) (y:ZY s<VW):BestC s C to dl (firstT lv PL 2) (exc 1 l):=by
 refine Nzd h a e (by rw [hl.zero];exact Oa _) h1 (hl.pairs ho e.nn) (fun S I hc v _ D=>hl.reach ho I hc (lv v).toNat v (by omega)) fun i hi he D=>?_
 have L:(⟨i+3,i+2,VW,0⟩:Pr)∈RO PL to dl s C:=by
  unfold RO
  refine Ny _ (Ny _ (Un.2 ⟨i,hi,he, ?_⟩))
  congr 1<;>omega
 obtain ⟨k,A,H⟩:=List.mem_iff_getElem.1 L
 have p:gt (RO PL to dl s C) k=⟨i+3,i+2,VW,0⟩:=by rw [OJ A,H]
 have m:(2*k) / 2=k:=by omega
 have w:(2*k+1) / 2=k:=by omega
 have g:(2*k) % 2=0:=by omega
 have E:¬(2*k+1) % 2=0:=by omega
 have n:hd l (2*k)=i+3:=by rw [a.hd];unfold hd;rw [m,Nk g,p]
 have o:tl l (2*k)=i+2:=by rw [a.tl];unfold tl;rw [m,Nk g,p]
 have O:rm l (2*k)+rm l (2*k+1)=VW:=by
  have:=a.cap (2*k) (by omega)
  rw [show tw (2*k)=2*k+1 by unfold tw;rw [Nk g]] at this
  rw [this]
  unfold rm
  rw [m,w,Nk g,Nf E,p];simp
 have u:k<l.length:=by rw [a.len];exact A
 have b:(gt l k).head=i+3/\(gt l k).tail=i+2/\rm l (2*k+1)=(gt l k).flow:=by
  unfold hd at n;unfold tl at o
  rw [m,Nk g] at n o
  exact ⟨n,o,by unfold rm;rw [w,Nf E]⟩
 have r:(gt l k).flow<=net (upto PL (gt PL i).2) l:=by
  refine (Yb fun q B=>?_).2 _ (PK u) ?_ ?_
  ·refine ⟨(e.nn q B).2,fun K=>?_⟩
   obtain ⟨j,z,G⟩:=List.mem_iff_getElem.1 B
   have t:j<(RO PL to dl s C).length:=by rw [<-a.len];exact z
   have b1:(2*j) / 2=j:=by omega
   have F:(2*j) % 2=0:=by omega
   have q1:=a.hd (2*j)
   have q2:=a.tl (2*j)
   unfold hd at q1;unfold tl at q2
   rw [b1,Nk F,Nk F,OJ z,G] at q1 q2
   rw [q2]
   refine Nlv h J (PK t) ?_
   rw [<-q1];exact K
  ·rw [b.2.1]
   show (decide (i<PL.length)&&decide ((gt PL i).2<=(gt PL i).2))=true
   simp;omega
  ·rw [b.1]
   show (decide (i+1<PL.length)&&decide ((gt PL (i+1)).2<=(gt PL i).2))=false
   have f:=(N5.mp h.lt) i (i+1) (by omega) hi (by omega)
   rw [<-OJ (by omega),<-OJ hi] at f
   unfold Vm at f
   simp;omega
 rw [e.value rfl rfl] at r
 have d:=e.le_cut (S:=YU PL noT) rfl rfl
 rw [a.cut,MF rfl h] at d
 have N:=Mi (T:=noT) (dl:=dl) M
 unfold wt at d
 rw [Nbm] at d
 have hr:0<rm l (2*k):=by rw [b.2.2] at O;omega
 have:=hl.closed (i+2) (2*k) D (by have:=ho.all (2*k) (by omega);rw [o] at this;exact this) hr
 rw [n] at this
 exact this
end
theorem Nbc {l:List Pr} {j:Nat}:hd l (2*j)=(gt l j).head:=by
 unfold hd
 rw [show 2*j / 2=j by omega,Nk (by omega)]
theorem Na4 {l:List Pr} {j:Nat}:tl l (2*j)=(gt l j).tail:=by
 unfold tl
 rw [show 2*j / 2=j by omega,Nk (by omega)]
theorem Xc {l:List Pr} {j:Nat}:rm l (2*j)=(gt l j).room:=by
 unfold rm
 rw [show 2*j / 2=j by omega,Nk (by omega)]
theorem YY {l:List Pr} {j:Nat}:rm l (2*j+1)=(gt l j).flow:=by
 unfold rm
 rw [show (2*j+1) / 2=j by omega,Nf (by omega)]
theorem Alike.gts {l l':List Pr} (h:Alike l l') (j:Nat):(gt l' j).head=(gt l j).head/\(gt l' j).tail=(gt l j).tail:=by
 have h1:=h.hd (2*j)
 have h2:=h.tl (2*j)
 rw [Nbc,Nbc] at h1
 rw [Na4,Na4] at h2
 exact ⟨h1,h2⟩
theorem Sent.flow {out:List (List Nat)} {lv:Nat->Int} {g s:Int} {l l':List Pr} {nx nx':List Nat} {n:Nat} (h:Sent out lv 0 g l nx s l' nx') (c:IsFlow n l):IsFlow n l'/\Flow.exc 1 l'=Flow.exc 1 l+s:=by
 refine ⟨⟨c.two,fun p hp=>?_,fun p hp=>?_,fun v d=>?_⟩, ?_⟩
 ·obtain ⟨j,b,rfl⟩:=List.mem_iff_getElem.1 hp
  have a:j<l.length:=by have:=h.same.len;omega
  obtain ⟨e1,e2⟩:=h.same.gts j
  have:=c.lt _ (PK (l:=l) a)
  rw [OJ b] at e1 e2
  rw [e1,e2];exact this
 ·obtain ⟨j,b,rfl⟩:=List.mem_iff_getElem.1 hp
  have a:j<l.length:=by have:=h.same.len;omega
  have h1:=h.nn (2*j) (by omega)
  have h2:=h.nn (2*j+1) (by omega)
  rw [Xc,OJ b] at h1
  rw [YY,OJ b] at h2
  exact ⟨h1,h2⟩
 ·rw [h.exc,Nf (by omega),Nf (by omega),c.bal v d];rfl
 ·rw [h.exc,Nf (by omega),Nk rfl];omega
theorem Alike.bound {l0 l:List Pr} {n:Nat} (h:Alike l0 l) (a:IsFlow n l):Flow.exc 1 l<=Flow.cut (fun v=>v != 1) l0:=by
 rw [<-h.cut]
 exact a.le_cut rfl rfl
def XB (PL:List (Int×Int)) (T:Int->Option Int) (v:Nat):Bool:=match v with
 | 0=>true
 | 1=>false
 | i+2=>decide (i+2<PL.length)&&!late T (gt PL (i+2)).1 (gt PL (i+2)).2
theorem Z8 {PL:List (Int×Int)} {T:Int->Option Int} {v:Nat} (h2:2<=v) (a:v<PL.length):XB PL T v=!late T (gt PL v).1 (gt PL v).2:=by
 obtain ⟨i,rfl⟩:∃i,v=i+2:=⟨v-2,by omega⟩
 show (decide (i+2<PL.length)&&_)=_
 rw [No a,Bool.true_and]
theorem Nw2 {PL:List (Int×Int)} {l:List Pr} {s:List Src} {C:List (Leg×Int)} {to dl d:Int} {R:Nat->Bool} {T:Int->Option Int} (j:IsFlow PL.length l)
  (a:∀U,U to=none->cut (XB PL U) l+d=wt U s C dl) (o:R 0=true) (h1:R 1=false) (hc:Closed R l)
  (b:∀S:Nat->Bool,S 0=true->Closed S l->∀v,v<PL.length->R v=true->S v=true)
  (f:T to=none) (r:∀v,2<=v->v<PL.length->R v=!late T (gt PL v).1 (gt PL v).2)
  (e:∀p t,T p=some t->∃v,2<=v/\v<PL.length/\R v=true/\gt PL v=(p,t)):BestC s C to dl T (exc 1 l+d):=by
 have c:∀v,v<PL.length->XB PL T v=R v:=fun v g=>by
  match v,g with
  | 0,_=>exact o.symm
  | 1,_=>exact h1.symm
  | i+2,g=>rw [Z8 (by omega) g];exact (r _ (by omega) g).symm
 refine ⟨f,fun U k=>?_, ?_,fun U k he p t x=>?_⟩
 ·rw [<-a U k]
  have:=j.le_cut (S:=XB PL U) rfl rfl
  omega
 ·rw [<-a T f,j.eq_cut (S:=XB PL T) rfl rfl fun p hp=>?_]
  obtain ⟨b1,n⟩:=j.lt p hp
  rw [c _ b1,c _ n]
  exact hc p hp
 ·have g:=a U k
  have m:=j.closed (S:=XB PL U) rfl rfl (by omega)
  obtain ⟨v,h2,h,q,w⟩:=e p t x
  have:=b _ rfl m v h q
  rw [Z8 h2 h,w] at this
  rw [Bool.not_eq_true'] at this
  unfold late at this
  split at this
  ·rename_i u y
   exact ⟨u,y,by simpa using this⟩
  ·cases this
end Go.Flow


