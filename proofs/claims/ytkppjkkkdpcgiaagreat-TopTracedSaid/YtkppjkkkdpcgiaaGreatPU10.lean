/-
  Joined texts, 10 of 10. A part of the claim that the last text states.
-/
import Derived.Test.YtkppjkkkdpcgiaaGreatProg
import Derived.Shelf.SlSortCmp.NoneTotal
import Derived.Test.YtkppjkkkdpcgiaaGreatRows
import Derived.Test.YtkppjkkkdpcgiaaGreatPU9
set_option linter.unusedVariables false
set_option linter.unusedSimpArgs false
set_option linter.defProp false
set_option linter.unusedSectionVars false
set_option maxRecDepth 100000
set_option maxHeartbeats 4000000
namespace Go.Proofs.YtkppjkkkdpcgiaaGreat.Fn
open Go.AM
theorem t1_:i1_.map (Vg Tryz.prog pf)=v1_.map some:=by kernel_rfl
theorem t2_:i2_.map (Vg Tryz.prog pf)=v2_.map some:=by kernel_rfl
theorem t3_:i3_.map (Vg Tryz.prog pf)=v3_.map some:=by kernel_rfl
theorem t4_:i4_.map (Vg Tryz.prog pf)=v4_.map some:=by kernel_rfl
theorem t5_:i5_.map (Vg Tryz.prog pf)=v5_.map some:=by kernel_rfl
theorem t6_:i6_.map (Vg Tryz.prog pf)=v6_.map some:=by kernel_rfl
theorem t7_:i7_.map (Vg Tryz.prog pf)=v7_.map some:=by kernel_rfl
def E0:Env:=⟨tr,pf,fun _ _=>none,false,fun _ _ _=>none⟩
theorem Nre {f:FuncId->Option AFunc} {g:FuncId} {af:AFunc}:∀(i:List FuncId) (v:List AFunc),i.map f=v.map some->(i.zip v).lookup g=some af->f g=some af
 | [],_,_,h=>by simp at h
 | _::_,[],_,h=>by simp at h
 | x::i,y::v,e,h=>by
   simp only [N9,List.cons.injEq] at e
   simp only [List.zip_cons_cons,List.lookup] at h
   split at h
   ·rename_i q;cases h;rw [beq_iff_eq.1 q];exact e.1
   ·exact Nre i v e.2 h
theorem tr_ok (g:FuncId) (af:AFunc) (h:tr g=some af):Vg Tryz.prog pf g=some af:=
 Nre ids fns (by simp only [ids,fns,Oq,t1_,t2_,t3_,t4_,t5_,t6_,t7_]) h
theorem ok0:EnvOk Tryz.prog E0:=⟨tr_ok,(fun _ _ _ h=>by cases h),(fun _ _ _ h=>by cases h),(fun _ _ _ h=>by cases h),by kernel_rfl,(fun _ _ _ _ h=>by cases h),(fun _ _ _ _ h=>by cases h)⟩
end Go.Proofs.YtkppjkkkdpcgiaaGreat.Fn


namespace Go.AM.Srt
open Go.AM Go.AM.Sym Go.Sort Go.Shelf Go.Proofs
section
variable {P:Program} {ρ:Ren} {E0:Env} {α:Type} [Inhabited α] {enc:α->List Value} {k:Nat} [K:EncOk enc k] {cl:FuncId} {cs:List Value} {c:α->α->Int} {W:Nat->Prop} {lim:Nat} {σ:PH} {H:NA} {w:World}
theorem Nl7 (l:List α):flatK enc k l.toArray=(l.flatMap enc).toArray:=by
 refine ext_get! (by simp [PK K.len]) fun t ht=>?_
 have a:t<l.length*k:=by simpa using ht
 have c:0<k:=by
  rcases Qu k with h | h
  ·subst h;simp at a
  ·exact h
 rw [get_flatK _ _ _ t (by simpa using a)]
 have hi:t / k<l.length:=Nat.div_lt_of_lt_mul (by rwa [Nat.mul_comm])
 have h1:=YT K.len l (t / k) hi
 have h2:(l.flatMap enc)[t]? = (enc (gt l (t / k)))[t % k]?:=by
  rw [<-h1,Py,Nh (Pr _ c),Qy,Nat.div_add_mod']
 have b:l.toArray[t / k]! = gt l (t / k):=by
  rw [getElem!_pos _ _ (by simpa using hi)]
  simp [gt,Nf hi]
 rw [b]
 simp only [getElem!_def,List.getElem?_toArray,h2]
theorem grown_of {f w':World} (h:Stp (fun b=>f.heap.size<=b) f w'):∃q os,w'=grow (f.drewN q) os:=by
 refine ⟨w'.drawn-f.drawn,w'.heap.extract f.heap.size w'.heap.size, ?_⟩
 have j:w'.heap=f.heap++w'.heap.extract f.heap.size w'.heap.size:=by
  apply Array.ext_getElem?
  intro i
  rw [Array.getElem?_append]
  split
  ·exact h.block i (by omega)
  ·rename_i hi
   rw [Array.getElem?_extract]
   split
   ·congr 1;omega
   ·rw [Array.getElem?_eq_none (by omega)]
 obtain ⟨h1,h2,g,k,h5⟩:=h
 obtain ⟨a,b,c,d,e⟩:=w'
 simp only [grow,World.drewN,World.mk.injEq] at *
 exact ⟨j,h2,by omega,h1,g.1⟩
theorem N0g (g:EnvOk P E0) (hc:Cmp E0 enc cl cs c) (blk off size:Nat) (w:World):CmpLays P cl cs.toArray enc k c blk off size w:=by
 intro m os f _ x y
 obtain ⟨n,L,h1,h2⟩:=hc.call x y
 have b:∀z,VRel (fun _=>none) (.agg (enc z).toArray) (.agg (enc z).toArray):=fun z=>
  VRel.agg_iff.2 ⟨OG.refl_of fun v hv=>.atom (K.ok z v (by simpa using hv)).1,fun v hv=>(K.ok z v (by simpa using hv)).2⟩
 have ha:OG (fun _=>none) (.agg (enc x).toArray::.agg (enc y).toArray::cs) (.agg (enc x).toArray::.agg (enc y).toArray::cs):=
  OG.cons (b x) (OG.cons (b y) (OG.refl_of fun v hv=>.atom (hc.atoms v hv)))
 have a:=(Nc0 g n).calls _ _ _ _ _ _ h1 (Nd _) _ _ _ _ (Inv.nil (sortWorldK enc k w blk off m f os)) ha
 rw [show (Value.agg (enc x).toArray::.agg (enc y).toArray::cs).toArray=#[.agg (enc x).toArray,.agg (enc y).toArray]++cs.toArray by simp] at a
 refine a.mono fun e w' hp=>?_
 obtain ⟨r,hr,v',o,rfl,d,i,h,j,l⟩:=hp
 rw [h2.2 r hr] at d
 exact ⟨by rw [d.int_left],grown_of h⟩
theorem Nnv (X:EnvOk P E0) (L:SlLaysF0.n6 P ρ) (aE:∀w,(isAgg (ρ.t 24)).run P w=.ok true w) (zE:∀w,(Go.sizeOf (ρ.t 24)).run P w=.ok k w) (hc:Cmp E0 enc cl cs c) {B cap:Nat} {l:List α} (hB:NC H B=Vc (l.flatMap enc)) (h0:l≠[]) (T:l.length<4611686018427387904)
  (E:lim<=B) (n:Inv (Prg.mk P (Env.pure E0)) W lim σ H w) {as':List Value} (ha:OG σ [.slice (Sa B) l.length cap,.func (.func cl) #[] cs.toArray] as') :
  Calls P (ρ.f 6) as'.toArray w (R8 (Prg.mk P (Env.pure E0)) W lim σ H (.tuple #[]) (H.set B (Vc ((sortN c l).flatMap enc))++[]) w):=by
 obtain ⟨Y,G⟩:=ha
 match as',Y,G with
 | [y0,y1],Y,G=>
 have v0:=G 0 _ _ rfl rfl
 have v1:=G 1 _ _ rfl rfl
 obtain ⟨a',b',rfl,ra,Z⟩:=v1.func_left
 have ea:a'=#[]:=by have:=ra.1;simpa using this.symm
 have eb:b'=cs.toArray:=by
  apply Array.toList_inj.1
  rw [List.toList_toArray]
  apply Pe (by simpa using Z.1.symm)
  intro i h1 h2
  exact (Z.2 i _ _ (by simp [h2]) (Nf h1)).eq_of_atom (hc.atoms _ (by simp))
 subst ea eb
 obtain ⟨_,a,hL,Q⟩:=v0.slice_left
 have D:l.length≠0:=fun h=>h0 (List.length_eq_zero_iff.1 h)
 obtain ⟨s,rfl⟩:∃c',y0=.slice (some ⟨a.blk,a.base,none⟩) l.length c':=by
  rcases Q with ⟨_,h⟩ | ⟨_,_,c',_,_,h⟩ | ⟨_,_,h,_⟩
  ·exact ⟨_,h⟩
  ·exact ⟨_,h⟩
  ·exact absurd h D
 have hi:=QX hB rfl
 obtain ⟨L2,u,I⟩:=n.blk B _ hi rfl
 rw [hL] at u;cases u
 obtain ⟨cells,el,fz,F,g2,g3⟩:=I
 obtain ⟨g4,g5,V⟩:=g3 rfl
 have p:∀(m:List α),∀v∈m.flatMap enc,atom v=true/\v.oneCell'=true:=fun m v hv=>by
  obtain ⟨x,_,h⟩:=List.mem_flatMap.1 hv
  exact K.ok x v h
 have q:∀(j:Nat) v,(l.flatMap enc)[j]? = some v->cells[a.base+j]? = some v:=fun j v hv=>by
  obtain ⟨v',k1,k2,_⟩:=g2 j v hv
  rw [k2.eq_of_atom (p l v (N8 hv)).1] at k1;exact k1
 have z:(l.flatMap enc).length=l.length*k:=PK K.len l
 have aa:a.base+l.length*k<=cells.size:=by rw [<-z];omega
 have hH:HoldsK enc k w a.blk a.base l.toArray:=by
  intro j o
  rw [Nl7] at *
  have C:j<(l.flatMap enc).length:=by simpa using o
  refine ⟨?_, ?_⟩
  ·show World.cell? w _=some ((l.flatMap enc).toArray[j]!)
   rw [getElem!_pos _ _ (by simpa using C)]
   simp only [World.cell?,F]
   exact q j _ (by simp [Nf C])
  ·simp only [World.frozen?,F]
   simpa using V.ok (a.base+j) (by omega)
 have y:a.blk<w.heap.size:=(Array.getElem?_eq_some_iff.1 F).1
 obtain ⟨af,M⟩:=hc.fn
 obtain ⟨fn,body,md,co,rs,R,r,_,_,hn,_⟩:=Xd (X.tr _ _ M)
 have g:Calls P (ρ.f 6) _ w _:=AnyQ.slices_SortFunc_eq L k aE zE enc K.len (fun x v hv=>(K.ok x v hv).2) c hc.swo cl cs.toArray a.blk a.base s l.toArray w (enters_of R hn r) (N0g X hc _ _ _ _) hH y (by simpa using T)
 have S:=sortN_len hc.swo l
 simp only [List.size_toArray] at g
 have eD:pdq (ltOf c) l.toArray 0 l.length (Lib.bitLen l.length) true true=(sortN c l).toArray:=by
  show pdq (ltC c) l.toArray 0 l.length (Lib.bitLen l.length) true true=_
  simp [sortN]
 rw [eD] at g
 refine g.mono fun e w' hp=>?_
 obtain ⟨rfl,m,os,rfl⟩:=hp
 rw [Nc]
 have A:((sortN c l).flatMap enc).length=l.length*k:=by rw [PK K.len,S]
 have d:(sortWorldK enc k w a.blk a.base m (sortN c l).toArray os).heap=w.heap.modify a.blk (onCells (putCells id a.base ((sortN c l).flatMap enc).toArray))++os:=by
  unfold sortWorldK putRowK
  rw [Nl7];rfl
 have J:∀(U:World),U.heap=w.heap.modify a.blk (onCells (putCells id a.base ((sortN c l).flatMap enc).toArray))->Inv (Prg.mk P (Env.pure E0)) W lim σ (H.set B (Vc ((sortN c l).flatMap enc))) U:=fun U h1=>by
  refine n.rewrite hi rfl hL (by rw [h1];simp) (fun j o=>by rw [h1,Array.getElem?_modify,Ng (Ne.symm o)]) ⟨putCells id a.base ((sortN c l).flatMap enc).toArray cells,el,fz, ?_,fun j v hv=>?_,fun _=>⟨?_, ?_, ?_⟩⟩ (fun _=>rfl)
  ·rw [h1,Array.getElem?_modify,Nh rfl,F];rfl
  ·have o:=(List.getElem?_eq_some_iff.1 hv).1
   refine ⟨v, ?_,.atom (p _ v (N8 hv)).1,(p _ v (N8 hv)).2⟩
   unfold putCells
   rw [Array.getElem?_mapIdx,Ny (by omega),Nr,Nh ⟨by omega,by rw [List.size_toArray];omega⟩]
   rw [show a.base+j-a.base=j by omega,getElem!_pos _ _ (by simpa using o)]
   simp [<-hv,Nf o]
  ·simpa [putCells] using g4
  ·rw [A,<-z];exact g5
  ·simpa [putCells] using V
 have hI:=(J { w with heap:=w.heap.modify a.blk (onCells (putCells id a.base ((sortN c l).flatMap enc).toArray)) } rfl).world (w':=sortWorldK enc k w a.blk a.base m (sortN c l).toArray os) (by rw [d];simp) (fun b r=>by rw [d,Array.getElem?_append_left r])
 refine ⟨.tuple #[],σ,rfl,.atom rfl,hI,⟨rfl,rfl,⟨rfl,Nat.le_add_right _ _⟩,by rw [d];simp,fun b r=>?_⟩,PH.le_refl _,fun j o=>absurd rfl o⟩
 have N:b<w.heap.size:=Nat.lt_of_not_le fun h=>r (n.fresh b h)
 have O:a.blk≠b:=fun e=>r (e▸n.wr B _ a hi rfl E hL)
 rw [d,Array.getElem?_append_left (by simpa using N),Array.getElem?_modify,Ng O]
theorem Nou (L:SlLaysF0.n6 P ρ) {p:Option Addr} {cap:Nat} {f:Value} (a:Inv (Prg.mk P (Env.pure E0)) W lim σ H w) {as':List Value} (ha:OG σ [.slice p 0 cap,f] as') :
  Calls P (ρ.f 6) as'.toArray w (R8 (Prg.mk P (Env.pure E0)) W lim σ H (.tuple #[]) (H++[]) w):=by
 obtain ⟨d,b⟩:=ha
 match as',d,b with
 | [y0,y1],d,b=>
 have h:=b 0 _ _ rfl rfl
 obtain ⟨c,c',rfl⟩:∃c c',y0=.slice c 0 c':=by cases h<;>exact ⟨_,_,rfl⟩
 refine (AnyF.slices_SortFunc_none L c c' y1 w).mono fun e w' hp=>?_
 obtain ⟨rfl,rfl⟩:=hp
 rw [Nc]
 exact ⟨.tuple #[],σ,rfl,.atom rfl,a,Stp.refl _ _,PH.le_refl _,fun j g=>absurd rfl g⟩
theorem sortF_calls (d:EnvOk P E0) (L:SlLaysF0.n6 P ρ) (c:∀w,(isAgg (ρ.t 24)).run P w=.ok true w) (g:∀w,(Go.sizeOf (ρ.t 24)).run P w=.ok k w) {xs:List Value} {r} (h:sortF E0 enc xs H=some r) (b:XU lim H r.2.2=true)
  (a:Inv (Prg.mk P (Env.pure E0)) W lim σ H w) {as':List Value} (ha:OG σ xs as'):Calls P (ρ.f 6) as'.toArray w (R8 (Prg.mk P (Env.pure E0)) W lim σ H r.1 (Np0 H r.2) w):=by
 unfold sortF at h
 split at h
 ·rename_i hx
  cases h
  obtain ⟨h0,hs,hB,cap,cl,cs,e,hc⟩:=hx.choose_spec
  rw [e] at ha
  simp only [XU,Nx,Ob] at b
  exact Nnv d L c g hc hB h0 hs b.1 a ha
 ·split at h
  ·rename_i hx
   cases h
   obtain ⟨p,cap,f,rfl⟩:=hx
   exact Nou L a ha
  ·cases h
end
end Go.AM.Srt


namespace Go.Proofs.YtkppjkkkdpcgiaaGreat
open Go.AM Go.AM.Sym Go.RowKit Go.Scan
noncomputable abbrev off:Fn.OB:=@Fn.OB.mk ⟨fun _=>false,fun _ _ _=>none,fun _ _ _ _ _=>rfl,Fn.srtF,Fn.srtF_no⟩ fun _ _ _=>rfl
noncomputable abbrev mid:Fn.OB:=@Fn.OB.mk ⟨fun _=>false,Fn.effO,Fn.effO_no,Fn.srtF,Fn.srtF_no⟩ fun _ _ _=>rfl
theorem N8l:Fn.Eb=Fn.E0:=by
 have h1:@Fn.orc Fn.base=fun _ _=>none:=by
  funext g xs
  unfold Fn.orc
  rw [Ng fun h=>by cases h.2.1]
 show (⟨Fn.tr,Fn.pf,@Fn.orc Fn.base,false,@Fn.effS Fn.base⟩:Env)=_
 rw [h1];rfl
theorem Nok:EnvOk Tryz.prog Fn.Eb:=N8l▸Fn.ok0
def N5b (a:List Nat) (s f t:Nat):Go.Shelf.Ren:=⟨fun x=>(([6,15,14,28,29,20,21,22,23,24,25,26,27,46,47,48,49,50,57].zip a).lookup x).getD x,fun x=>(([22,25,24,3,39,0,53,55,4,46,45,50,5,9,66,70,76,77].zip [s,f,t,3,243,0,261,263,4,255,254,196,5,9,277,281,290,291]).lookup x).getD x,fun x=>x⟩
abbrev N8q:=N5b [95,130,129,154,155,146,147,148,149,150,151,152,153,172,173,174,175,176,188] 46 192 56
abbrev N8o:=N5b [142,130,168,154,155,180,181,182,183,184,185,186,187,190,173,174,191,192,193] 188 237 230
abbrev N8p:=N5b [102,130,133,154,155,157,158,159,160,161,162,163,164,177,173,174,178,179,189] 28 155 95
theorem Nff {f:FuncId} {g:Func} (h:Tryz.prog.funcs[f]? = some { g with name:=((Tryz.prog.funcs[f]?).getD default).name }) (d:(((Tryz.prog.funcs[f]?).getD default).name == "runtime.NumGoroutine")=false):Bears Tryz.prog f g:=⟨_,d,h⟩
theorem N76:SlLaysF0.n6 Tryz.prog N8q:=by constructor<;>first | kernel_rfl | exact Nff (by kernel_rfl) (by kernel_rfl) | (intro w;kernel_rfl)
theorem N74:SlLaysF0.n6 Tryz.prog N8o:=by constructor<;>first | kernel_rfl | exact Nff (by kernel_rfl) (by kernel_rfl) | (intro w;kernel_rfl)
theorem N75:SlLaysF0.n6 Tryz.prog N8p:=by constructor<;>first | kernel_rfl | exact Nff (by kernel_rfl) (by kernel_rfl) | (intro w;kernel_rfl)
theorem Nqp {t:TypeId} (h:t=56\/t=230\/t=95):∀w,(isAgg t).run Tryz.prog w=.ok true w:=by intro w;rcases h with rfl | rfl | rfl<;>kernel_rfl
theorem Ngm {g:FuncId} {vs:List Value} {H:NA} {r} (h:Fn.srtF g vs H=some r) {lim:Nat} (c:XU lim H r.2.2=true) {W:Nat->Prop} {σ:PH} {w:World} {b:List Value}
  (a:Inv (Prg.mk Tryz.prog Fn.pf) W lim σ H w) (ha:OG σ vs b):Calls Tryz.prog g b.toArray w (R8 (Prg.mk Tryz.prog Fn.pf) W lim σ H r.1 (Np0 H r.2) w):=by
 unfold Fn.srtF at h
 split at h
 ·rename_i e;subst e
  exact Srt.sortF_calls Nok N76 (Nqp (.inl rfl)) (by intro w;kernel_rfl) h c a ha
 split at h
 ·rename_i e;subst e
  exact Srt.sortF_calls Nok N74 (Nqp (.inr (.inl rfl))) (by intro w;kernel_rfl) h c a ha
 split at h
 ·rename_i e;subst e
  exact Srt.sortF_calls Nok N75 (Nqp (.inr (.inr rfl))) (by intro w;kernel_rfl) h c a ha
 ·cases h
theorem Nwq {g:FuncId} {vs:List Value} {H:NA} {r} (h:Fn.srtF g vs H=some r):∃fn,Tryz.prog.funcs[g]? = some fn/\fn.body.isSome=true/\(fn.name == "runtime.NumGoroutine")=false:=by
 unfold Fn.srtF at h
 split at h
 ·rename_i e;subst e;obtain ⟨nm,d,h⟩:=N76.f6;exact ⟨_,h,rfl,d⟩
 split at h
 ·rename_i e;subst e;obtain ⟨nm,d,h⟩:=N74.f6;exact ⟨_,h,rfl,d⟩
 split at h
 ·rename_i e;subst e;obtain ⟨nm,d,h⟩:=N75.f6;exact ⟨_,h,rfl,d⟩
 ·cases h
theorem X0 (o:Fn.OB) {g:FuncId} {vs:List Value} {H:NA} {r} (h:@Fn.effS o.toOA g vs H=some r):(∃q,o.toOA.eff g vs H=some q/\r=(q.1,q.2,none))\/Fn.srtF g vs H=some r:=by
 unfold Fn.effS at h
 split at h
 ·rename_i q e;cases h;exact .inl ⟨q,e,rfl⟩
 ·exact .inr ((o.srtOk _ _ _).symm.trans h)
theorem Nq8:EnvOk Tryz.prog (@Fn.Ef off.toOA):=by
 have no:∀g xs v,(@Fn.Ef off.toOA).orc g xs≠some v:=by
  intro g xs v h
  simp only [Fn.Ef,Fn.orc] at h
  rw [Ng fun h=>by cases h.2.1] at h
  cases h
 exact ⟨Fn.tr_ok,fun g xs v h=>absurd h (no g xs v),fun g xs v h=>absurd h (no g xs v),fun g xs v h=>absurd h (no g xs v),Fn.ok0.mixed,fun g xs H r h=>(X0 off h).elim (fun ⟨_,e,_⟩=>by cases e) Nwq,fun g xs H r h lim hl b W σ w c a ha=>(X0 off h).elim (fun ⟨_,e,_⟩=>by cases e) fun h=>Ngm h b a ha⟩
theorem atoms (L:List Ev):∀x∈L.flatMap Fn.encE,atom x=true:=fun x hx=>by
 obtain ⟨e,_,h⟩:=List.mem_flatMap.1 hx
 simp only [Fn.encE,Nn,O1,or_false] at h
 rcases h with rfl | rfl | rfl | rfl | rfl | rfl | rfl<;>rfl
theorem Nmg {g:FuncId} {vs:List Value} {L:List Ev} {H:NA} (h:NP (@Fn.Ef off.toOA) false H.length g vs H fun v H'=>∃G p c,v=.tuple #[.slice p L.length c,Vi 0]/\H'=G++[]/\Own H.length G Fn.encE 7 p c L/\(L=[]->p=none)) {lim:Nat} {W:Nat->Prop} {σ:PH} {w:World} {b:List Value}
  (a:Inv (Prg.mk Tryz.prog Fn.pf) W lim σ H w) (ha:OG σ vs b):Calls Tryz.prog g b.toArray w (R8 (Prg.mk Tryz.prog Fn.pf) W lim σ H (Fn.effL H.length L).1 (H++news (Fn.effL H.length L).2) w):=by
 unfold Fn.effL
 by_cases hL:L=[]
 ·rw [Nh hL]
  subst hL
  refine Ney Nq8 rfl ?_ a ha
  refine NP.mono h fun v H' hv=>?_
  obtain ⟨G,p,c,rfl,_,d,hp⟩:=hv
  rcases d with ⟨_,rfl,rfl⟩ | ⟨R,rfl,rfl,e,_⟩
  ·rfl
  ·have:=hp rfl;cases this
 ·rw [Ng hL]
  refine Nuw Nq8 (atoms L) (NP.mono h fun v H' hv=>?_) a ha
  obtain ⟨G,p,c,rfl,rfl,d,_⟩:=hv
  rcases d with ⟨h0,_⟩ | ⟨R,rfl,rfl,e,hl⟩
  ·exact absurd h0 hL
  ·exact ⟨R,rfl,by rw [Nc];exact e,hl⟩
theorem Nux {g:FuncId} {vs:List Value} {H:NA} {r} (h:Fn.effO g vs H=some r) {lim:Nat} {W:Nat->Prop} {σ:PH} {w:World} {b:List Value} (a:Inv (Prg.mk Tryz.prog Fn.pf) W lim σ H w) (ha:OG σ vs b):Calls Tryz.prog g b.toArray w (R8 (Prg.mk Tryz.prog Fn.pf) W lim σ H r.1 (H++news r.2) w):=by
 obtain ⟨f,p,c,S,rfl,hn,hs,rfl⟩:=Fn.effO_some h
 by_cases hS:QQ S
 ·rcases f with rfl | rfl
  ·have e:Fn.effR (decide ((36:Nat)=36)) H.length S=Fn.effL H.length (NY S).1:=Nh hS
   rw [e]
   exact Nmg (@Fn.Order_ok off (fun _ _=>rfl) _ _ _ _ _ _ hs hS (Nd _) fun G kp kc h1 _ d=>⟨G,kp,kc,rfl,rfl,h1,d⟩) a ha
  ·have e:Fn.effR (decide ((27:Nat)=36)) H.length S=Fn.effL H.length (NY S).2:=Nh hS
   rw [e]
   exact Nmg (@Fn.Doubled_ok off (fun _ _=>rfl) _ _ _ _ _ _ hs hS (Nd _) fun G kp kc h1 _ d=>⟨G,kp,kc,rfl,rfl,h1,d⟩) a ha
 ·rw [Fn.effR_no hS]
  rcases f with rfl | rfl
  ·exact Ney Nq8 rfl (by rw [@Fn.Order_no off (fun _ _=>rfl) _ _ _ _ _ _ hs hn hS]) a ha
  ·exact Ney Nq8 rfl (by rw [@Fn.Doubled_no off (fun _ _=>rfl) _ _ _ _ _ _ hs hn hS]) a ha
theorem N59 {g:FuncId} {vs:List Value} {H:NA} {r} (h:Fn.effO g vs H=some r):∃fn,Tryz.prog.funcs[g]? = some fn/\fn.body.isSome=true/\(fn.name == "runtime.NumGoroutine")=false:=by
 have key:∀{g af},Fn.tr g=some af->∃fn,Tryz.prog.funcs[g]? = some fn/\fn.body.isSome=true/\(fn.name == "runtime.NumGoroutine")=false:=fun {g af} h=>by
  obtain ⟨fn,body,md,c,rs,hfn,hb,hc,hrs,hn,_⟩:=Xd (Fn.tr_ok g af h)
  exact ⟨fn,hfn,by rw [hb];rfl,hn⟩
 obtain ⟨hg,_⟩:=Fn.effO_some h
 rcases hg with rfl | rfl
 ·exact key Fn.e36
 ·exact key Fn.e27
theorem N7y:EnvOk Tryz.prog (@Fn.E mid.toOA):=by
 have no:∀g xs v,(@Fn.E mid.toOA).orc g xs≠some v:=by
  intro g xs v h
  simp only [Fn.E,Fn.orc] at h
  rw [Ng fun h=>by cases h.2.1] at h
  cases h
 exact ⟨Fn.tr_ok,fun g xs v h=>absurd h (no g xs v),fun g xs v h=>absurd h (no g xs v),fun g xs v h=>absurd h (no g xs v),Fn.ok0.mixed,fun g xs H r h=>(X0 mid h).elim (fun ⟨_,e,_⟩=>N59 e) Nwq,fun g xs H r h lim hl c W σ w d a ha=>(X0 mid h).elim (fun ⟨_,e,b⟩=>b▸Nux e a ha) fun h=>Ngm h c a ha⟩
theorem own:ownKnob Tryz.prog.godebug=none:=by kernel_rfl
theorem laidOut:laidOutB Tryz.prog=true:=by kernel_rfl
abbrev Nc9:Ty:=.pair (.int .u8) (.pair (.int .u8) (.pair (.int .u8) (.pair (.int .u8) (.pair (.int .u8) (.pair (.int .u8) .nil)))))
def Nwh (x:Nc9.den):Fn.RL:=⟨x.1,x.2.1,x.2.2.1,x.2.2.2.1,x.2.2.2.2.1,x.2.2.2.2.2.1⟩
theorem N17 (H:NA) (x:Nc9.den) (c:List Value) (h:WC Nc9 H x c):c=Fn.encR (Nwh x):=by
 obtain ⟨f,l,rfl,h1,g,r2,rfl,h2,c3,r3,rfl,a,i,m,rfl,b,j,n,rfl,h5,k,o,rfl,d,e⟩:=h
 simp only [WC] at h1 h2 a b h5 d e
 rw [h1.1,h2.1,a.1,b.1,h5.1,d.1,e]
 rfl
theorem N5c (H:NA) (x:Nc9.den) (c:List Value) (h:WC Nc9 H x c):Fn.ByR (Nwh x):=by
 obtain ⟨e,l,rfl,h1,f,r2,rfl,h2,c3,r3,rfl,a,g,m,rfl,b,i,n,rfl,h5,j,o,rfl,d,k⟩:=h
 simp only [WC] at h1 h2 a b h5 d
 exact ⟨⟨h1.2.1,h1.2.2⟩,⟨h2.2.1,h2.2.2⟩,⟨a.2.1,a.2.2⟩,⟨b.2.1,b.2.2⟩,⟨h5.2.1,h5.2.2⟩,⟨d.2.1,d.2.2⟩⟩
theorem Nwy {H:NA} {l:List Nc9.den} {v:Value} (h:Xa (.slice Nc9) H l v):∃p k,∃a:List Fn.RL,v=.slice p a.length k/\Sl H Fn.encR 6 p a/\(∀x∈a,Fn.ByR x)/\Ve 6 k a.length/\a.length<2 ^ 63:=by
 obtain ⟨p,k,e,h1,b,h2⟩:=Ngn (t:=Nc9) Nwh Fn.encR N17 h
 refine ⟨p,k,_,e,h1,fun x hx=>?_,b,h2⟩
 obtain ⟨y,d,rfl⟩:=List.mem_map.1 hx
 obtain ⟨c,hc⟩:=WC.slice_mem (h.one rfl) y d
 exact N5c H y c hc
end Go.Proofs.YtkppjkkkdpcgiaaGreat


