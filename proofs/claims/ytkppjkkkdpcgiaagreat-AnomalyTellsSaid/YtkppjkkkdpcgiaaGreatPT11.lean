/-
  Joined texts, 11 of 11. A part of the claim that the last text states.
-/
import Derived.Test.YtkppjkkkdpcgiaaGreatProg
import Derived.Shelf.SlSortCmp.NoneTotal
import Derived.Test.YtkppjkkkdpcgiaaGreatRows
import Derived.Test.YtkppjkkkdpcgiaaGreatPT10
set_option linter.unusedVariables false
set_option linter.unusedSimpArgs false
set_option linter.defProp false
set_option linter.unusedSectionVars false
set_option maxRecDepth 100000
set_option maxHeartbeats 4000000
namespace Go.Proofs.YtkppjkkkdpcgiaaGreat.Fn
open Go.AM
theorem t1_:i1_.map (Um Tryz.prog pf)=v1_.map some:=by kernel_rfl
theorem t2_:i2_.map (Um Tryz.prog pf)=v2_.map some:=by kernel_rfl
theorem t3_:i3_.map (Um Tryz.prog pf)=v3_.map some:=by kernel_rfl
theorem t4_:i4_.map (Um Tryz.prog pf)=v4_.map some:=by kernel_rfl
theorem t5_:i5_.map (Um Tryz.prog pf)=v5_.map some:=by kernel_rfl
theorem t6_:i6_.map (Um Tryz.prog pf)=v6_.map some:=by kernel_rfl
theorem t7_:i7_.map (Um Tryz.prog pf)=v7_.map some:=by kernel_rfl
theorem t8_:i8_.map (Um Tryz.prog pf)=v8_.map some:=by kernel_rfl
theorem t9_:i9_.map (Um Tryz.prog pf)=v9_.map some:=by kernel_rfl
theorem Ody:Odi.map (Um Tryz.prog pf)=Ob5.map some:=by kernel_rfl
theorem Odx:Odh.map (Um Tryz.prog pf)=Ob4.map some:=by kernel_rfl
def E0:Env:=⟨tr,pf,fun _ _=>none,false,fun _ _ _=>none⟩
theorem Ns5 {f:FuncId->Option AFunc} {g:FuncId} {af:AFunc}:∀(i:List FuncId) (v:List AFunc),i.map f=v.map some->(i.zip v).lookup g=some af->f g=some af
 | [],_,_,h=>by simp at h
 | _::_,[],_,h=>by simp at h
 | x::i,y::v,e,h=>by
   simp only [Oj,List.cons.injEq] at e;simp only [List.zip_cons_cons,List.lookup] at h;split at h
   ·rename_i q;cases h;rw [beq_iff_eq.1 q];exact e.1
   ·exact Ns5 i v e.2 h
theorem tr_ok (g:FuncId) (af:AFunc) (h:tr g=some af):Um Tryz.prog pf g=some af:=
 Ns5 ids fns (by simp only [ids,fns,O7,t1_,t2_,t3_,t4_,t5_,t6_,t7_,t8_,t9_,Ody,Odx]) h
theorem ok0:EnvOk Tryz.prog E0:=⟨tr_ok,(fun _ _ _ h=>by cases h),(fun _ _ _ h=>by cases h),(fun _ _ _ h=>by cases h),by kernel_rfl,(fun _ _ _ _ h=>by cases h),(fun _ _ _ _ h=>by cases h)⟩
end Go.Proofs.YtkppjkkkdpcgiaaGreat.Fn



namespace Go.AM.Srt
open Go.AM Go.AM.Sym Go.Sort Go.Shelf Go.Proofs
section
variable {P:Program} {ρ:Ren} {E0:Env} {α:Type} [Inhabited α] {enc:α->List Value} {k:Nat} [K:EncOk enc k] {cl:FuncId} {cs:List Value} {c:α->α->Int} {W:Nat->Prop} {lim:Nat} {σ:PO} {H:NA} {w:World}
variable {cap:Nat} {as':List Value}
theorem Nnu (l:List α):flatK enc k l.toArray=(l.flatMap enc).toArray:=by
 refine ext_get! (by simp [OW K.len]) fun t c=>?_
 have a:t<l.length*k:=by simpa using c
 have d:0<k:=by
  rcases Qu k with h | h
  ·subst h;simp at a
  ·exact h
 rw [get_flatK _ _ _ t (by simpa using a)];have hi:t / k<l.length:=Nat.div_lt_of_lt_mul (by rwa [Nat.mul_comm]);have h1:=ZI K.len l (t / k) hi;have h2:(l.flatMap enc)[t]? = (enc (gt l (t / k)))[t % k]?:=by
  rw [<-h1,Qc,Nl (P6 _ d),Q0,Nat.div_add_mod']
 have b:l.toArray[t / k]! = gt l (t / k):=by
  rw [getElem!_pos _ _ (by simpa using hi)];simp [gt,Ni hi]
 rw [b];simp only [getElem!_def,List.getElem?_toArray,h2]
theorem grown_of {f w':World} (h:Stp (fun b=>f.heap.size<=b) f w'):∃q os,w'=grow (f.drewN q) os:=by
 refine ⟨w'.drawn-f.drawn,w'.heap.extract f.heap.size w'.heap.size, ?_⟩;have j:w'.heap=f.heap++w'.heap.extract f.heap.size w'.heap.size:=by
  apply Array.ext_getElem?;intro i;rw [Array.getElem?_append];split
  ·exact h.block i (by omega)
  ·rename_i hi;rw [Array.getElem?_extract];split
   ·congr 1;omega
   ·rw [Array.getElem?_eq_none (by omega)]
 obtain ⟨h1,h2,g,k,h5⟩:=h;obtain ⟨a,b,c,d,e⟩:=w';simp only [grow,World.drewN,World.mk.injEq] at *;exact ⟨j,h2,by omega,h1,g.1⟩
theorem N24 (h:EnvOk P E0) (hc:Cmp E0 enc cl cs c) (blk off size:Nat) (w:World):CmpLays P cl cs.toArray enc k c blk off size w:=by
 intro m os g _ x y;obtain ⟨n,L,h1,h2⟩:=hc.call x y;have d:∀z,VRel (fun _=>none) (.agg (enc z).toArray) (.agg (enc z).toArray):=fun z=>
  VRel.agg_iff.2 ⟨OV.refl_of fun v b=>.atom (K.ok z v (by simpa using b)).1,fun v b=>(K.ok z v (by simpa using b)).2⟩
 have i:OV (fun _=>none) (.agg (enc x).toArray::.agg (enc y).toArray::cs) (.agg (enc x).toArray::.agg (enc y).toArray::cs):=
  OV.cons (d x) (OV.cons (d y) (OV.refl_of fun v b=>.atom (hc.atoms v b)))
 have a:=(ZL h n).calls _ _ _ _ _ _ h1 (Nf _) _ _ _ _ (Inv.nil (sortWorldK enc k w blk off m g os)) i;rw [show (Value.agg (enc x).toArray::.agg (enc y).toArray::cs).toArray=#[.agg (enc x).toArray,.agg (enc y).toArray]++cs.toArray by simp] at a;refine a.mono fun e w' hp=>?_
 obtain ⟨r,hr,v',q,rfl,f,l,j,o,p⟩:=hp;rw [h2.2 r hr] at f;exact ⟨by rw [f.int_left],grown_of j⟩
theorem Npj (X:EnvOk P E0) (L:SlLaysF0.n6 P ρ) (aE:∀w,(isAgg (ρ.t 24)).run P w=.ok true w) (zE:∀w,(Go.sizeOf (ρ.t 24)).run P w=.ok k w) (hc:Cmp E0 enc cl cs c) {B:Nat} {l:List α} (hB:NE H B=Vc (l.flatMap enc)) (h0:l≠[]) (U:l.length<4611686018427387904)
  (F:lim<=B) (n:Inv (Prg.mk P (Env.pure E0)) W lim σ H w) (ha:OV σ [.slice (Sa B) l.length cap,.func (.func cl) #[] cs.toArray] as') :
  Calls P (ρ.f 6) as'.toArray w (Sj (Prg.mk P (Env.pure E0)) W lim σ H (.tuple #[]) (H.set B (Vc ((sortN c l).flatMap enc))++[]) w):=by
 obtain ⟨Y,I⟩:=ha
 match as',Y,I with
 | [y0,y1],Y,I=>
 have v0:=I 0 _ _ rfl rfl;have v1:=I 1 _ _ rfl rfl;obtain ⟨a',b',rfl,ra,Z⟩:=v1.func_left;have ea:a'=#[]:=by have:=ra.1;simpa using this.symm
 have eb:b'=cs.toArray:=by
  apply Array.toList_inj.1;rw [List.toList_toArray];apply Pr (by simpa using Z.1.symm);intro i h1 h2;exact (Z.2 i _ _ (by simp [h2]) (Ni h1)).eq_of_atom (hc.atoms _ (by simp))
 subst ea eb;obtain ⟨_,a,hL,R⟩:=v0.slice_left;have E:l.length≠0:=fun h=>h0 (List.length_eq_zero_iff.1 h)
 obtain ⟨u,rfl⟩:∃c',y0=.slice (some ⟨a.blk,a.base,none⟩) l.length c':=by
  rcases R with ⟨_,h⟩ | ⟨_,_,c',_,_,h⟩ | ⟨_,_,h,_⟩
  ·exact ⟨_,h⟩
  ·exact ⟨_,h⟩
  ·exact absurd h E
 have hi:=RB hB rfl;obtain ⟨L2,y,J⟩:=n.blk B _ hi rfl;rw [hL] at y;cases y;obtain ⟨cells,el,fz,G,g2,g3⟩:=J;obtain ⟨g4,g5,V⟩:=g3 rfl;have q:∀(m:List α),∀v∈m.flatMap enc,atom v=true/\v.oneCell'=true:=fun m v o=>by
  obtain ⟨x,_,h⟩:=List.mem_flatMap.1 o;exact K.ok x v h
 have r:∀(j:Nat) v,(l.flatMap enc)[j]? = some v->cells[a.base+j]? = some v:=fun j v o=>by
  obtain ⟨v',k1,k2,_⟩:=g2 j v o;rw [k2.eq_of_atom (q l v (Oh o)).1] at k1;exact k1
 have A:(l.flatMap enc).length=l.length*k:=OW K.len l;have aa:a.base+l.length*k<=cells.size:=by rw [<-A];omega
 have hH:HoldsK enc k w a.blk a.base l.toArray:=by
  intro j p;rw [Nnu] at *;have D:j<(l.flatMap enc).length:=by simpa using p
  refine ⟨?_, ?_⟩
  ·show World.cell? w _=some ((l.flatMap enc).toArray[j]!);rw [getElem!_pos _ _ (by simpa using D)];simp only [World.cell?,G];exact r j _ (by simp [Ni D])
  ·simp only [World.frozen?,G];simpa using V.ok (a.base+j) (by omega)
 have z:a.blk<w.heap.size:=(Array.getElem?_eq_some_iff.1 G).1;obtain ⟨af,N⟩:=hc.fn;obtain ⟨fn,body,md,co,rs,S,s,_,_,hn,_⟩:=XL (X.tr _ _ N);have g:Calls P (ρ.f 6) _ w _:=AnyQ.slices_SortFunc_eq L k aE zE enc K.len (fun x v o=>(K.ok x v o).2) c hc.swo cl cs.toArray a.blk a.base u l.toArray w (enters_of S hn s) (N24 X hc _ _ _ _) hH z (by simpa using U);have T:=sortN_len hc.swo l;simp only [List.size_toArray] at g;have eD:pdq (ltOf c) l.toArray 0 l.length (Lib.bitLen l.length) true true=(sortN c l).toArray:=by
  show pdq (ltC c) l.toArray 0 l.length (Lib.bitLen l.length) true true=_;simp [sortN]
 rw [eD] at g;refine g.mono fun e w' hp=>?_
 obtain ⟨rfl,m,os,rfl⟩:=hp;rw [Na];have C:((sortN c l).flatMap enc).length=l.length*k:=by rw [OW K.len,T]
 have d:(sortWorldK enc k w a.blk a.base m (sortN c l).toArray os).heap=w.heap.modify a.blk (onCells (putCells id a.base ((sortN c l).flatMap enc).toArray))++os:=by
  unfold sortWorldK putRowK;rw [Nnu];rfl
 have M:∀(w1:World),w1.heap=w.heap.modify a.blk (onCells (putCells id a.base ((sortN c l).flatMap enc).toArray))->Inv (Prg.mk P (Env.pure E0)) W lim σ (H.set B (Vc ((sortN c l).flatMap enc))) w1:=fun w1 h1=>by
  refine n.rewrite hi rfl hL (by rw [h1];simp) (fun j p=>by rw [h1,Array.getElem?_modify,Ng (Ne.symm p)]) ⟨putCells id a.base ((sortN c l).flatMap enc).toArray cells,el,fz, ?_,fun j v o=>?_,fun _=>⟨?_, ?_, ?_⟩⟩ (fun _=>rfl)
  ·rw [h1,Array.getElem?_modify,Nl rfl,G];rfl
  ·have p:=(List.getElem?_eq_some_iff.1 o).1;refine ⟨v, ?_,.atom (q _ v (Oh o)).1,(q _ v (Oh o)).2⟩;unfold putCells;rw [Array.getElem?_mapIdx,Of (by omega),Ny,Nl ⟨by omega,by rw [List.size_toArray];omega⟩];rw [show a.base+j-a.base=j by omega,getElem!_pos _ _ (by simpa using p)];simp [<-o,Ni p]
  ·simpa [putCells] using g4
  ·rw [C,<-A];exact g5
  ·simpa [putCells] using V
 have hI:=(M { w with heap:=w.heap.modify a.blk (onCells (putCells id a.base ((sortN c l).flatMap enc).toArray)) } rfl).world (w':=sortWorldK enc k w a.blk a.base m (sortN c l).toArray os) (by rw [d];simp) (fun b s=>by rw [d,Array.getElem?_append_left s]);refine ⟨.tuple #[],σ,rfl,.atom rfl,hI,⟨rfl,rfl,⟨rfl,Nat.le_add_right _ _⟩,by rw [d];simp,fun b s=>?_⟩,PO.le_refl _,fun j p=>absurd rfl p⟩;have O:b<w.heap.size:=Nat.lt_of_not_le fun h=>s (n.fresh b h)
 have Q:a.blk≠b:=fun e=>s (e▸n.wr B _ a hi rfl F hL)
 rw [d,Array.getElem?_append_left (by simpa using O),Array.getElem?_modify,Ng Q]
theorem Nqi (L:SlLaysF0.n6 P ρ) {p:Option Addr} {f:Value} (a:Inv (Prg.mk P (Env.pure E0)) W lim σ H w) (g:OV σ [.slice p 0 cap,f] as') :
  Calls P (ρ.f 6) as'.toArray w (Sj (Prg.mk P (Env.pure E0)) W lim σ H (.tuple #[]) (H++[]) w):=by
 obtain ⟨d,b⟩:=g
 match as',d,b with
 | [y0,y1],d,b=>
 have i:=b 0 _ _ rfl rfl;obtain ⟨c,c',rfl⟩:∃c c',y0=.slice c 0 c':=by cases i<;>exact ⟨_,_,rfl⟩
 refine (AnyF.slices_SortFunc_none L c c' y1 w).mono fun e w' hp=>?_
 obtain ⟨rfl,rfl⟩:=hp;rw [Na];exact ⟨.tuple #[],σ,rfl,.atom rfl,a,Stp.refl _ _,PO.le_refl _,fun j h=>absurd rfl h⟩
theorem sortF_calls (j:EnvOk P E0) (L:SlLaysF0.n6 P ρ) (g:∀w,(isAgg (ρ.t 24)).run P w=.ok true w) (l:∀w,(Go.sizeOf (ρ.t 24)).run P w=.ok k w) {xs:List Value} {r} (h:sortF E0 enc xs H=some r) (d:YI lim H r.2.2=true)
  (a:Inv (Prg.mk P (Env.pure E0)) W lim σ H w) (b:OV σ xs as'):Calls P (ρ.f 6) as'.toArray w (Sj (Prg.mk P (Env.pure E0)) W lim σ H r.1 (Nrq H r.2) w):=by
 unfold sortF at h;split at h
 ·rename_i c;cases h;obtain ⟨i,hs,hB,cap,cl,cs,e,hc⟩:=c.choose_spec;rw [e] at b;simp only [YI,N2,N6] at d;exact Npj j L g l hc hB i hs d.1 a b
 ·split at h
  ·rename_i c;cases h;obtain ⟨p,cap,f,rfl⟩:=c;exact Nqi L a b
  ·cases h
end
end Go.AM.Srt



namespace Go.Proofs.YtkppjkkkdpcgiaaGreat
open Go.AM Go.AM.Sym Go.RowKit Go.Scan
variable {vs b:List Value} {g:FuncId} {H:NA} {W:Nat->Prop} {w:World} {σ:PO}
noncomputable abbrev off:Fn.OB:=@Fn.OB.mk ⟨fun _=>false,fun _ _ _=>none,fun _ _ _ _ _=>rfl,Fn.srtF,Fn.srtF_no⟩ fun _ _ _=>rfl
noncomputable abbrev mid:Fn.OB:=@Fn.OB.mk ⟨fun _=>false,Fn.effO,Fn.effO_no,Fn.srtF,Fn.srtF_no⟩ fun _ _ _=>rfl
noncomputable abbrev Nmf:Fn.OB:=@Fn.OB.mk ⟨fun g=>g == 18,Fn.effO,Fn.effO_no,Fn.srtF,Fn.srtF_no⟩ fun _ _ _=>rfl
theorem Odv:Fn.Eb=Fn.E0:=by
 have h1:@Fn.orc Fn.base=fun _ _=>none:=by
  funext g xs;unfold Fn.orc;rw [Ng fun h=>by cases h.2.1]
 show (⟨Fn.tr,Fn.pf,@Fn.orc Fn.base,false,@Fn.effS Fn.base⟩:Env)=_;rw [h1];rfl
theorem Nqa:EnvOk Tryz.prog Fn.Eb:=Odv▸Fn.ok0
def N9o (a:List Nat) (s f t:Nat):Go.Shelf.Ren:=⟨fun x=>(([6,15,14,28,29,20,21,22,23,24,25,26,27,46,47,48,49,50,57].zip a).lookup x).getD x,fun x=>(([22,25,24,3,39,0,53,55,4,46,45,50,5,9,66,70,76,77].zip [s,f,t,3,243,0,261,263,4,255,254,196,5,9,277,281,290,291]).lookup x).getD x,fun x=>x⟩
abbrev Od2:=N9o [95,130,129,154,155,146,147,148,149,150,151,152,153,172,173,174,175,176,188] 46 192 56
abbrev Od0:=N9o [142,130,168,154,155,180,181,182,183,184,185,186,187,190,173,174,191,192,193] 188 237 230
abbrev Od1:=N9o [102,130,133,154,155,157,158,159,160,161,162,163,164,177,173,174,178,179,189] 28 155 95
theorem Ngc {f:FuncId} {g:Func} (h:Tryz.prog.funcs[f]? = some { g with name:=((Tryz.prog.funcs[f]?).getD default).name }) (d:(((Tryz.prog.funcs[f]?).getD default).name == "runtime.NumGoroutine")=false):Bears Tryz.prog f g:=⟨_,d,h⟩
theorem Oda:SlLaysF0.n6 Tryz.prog Od2:=by constructor<;>first | kernel_rfl | exact Ngc (by kernel_rfl) (by kernel_rfl) | (intro w;kernel_rfl)
theorem Oc8:SlLaysF0.n6 Tryz.prog Od0:=by constructor<;>first | kernel_rfl | exact Ngc (by kernel_rfl) (by kernel_rfl) | (intro w;kernel_rfl)
theorem Oc9:SlLaysF0.n6 Tryz.prog Od1:=by constructor<;>first | kernel_rfl | exact Ngc (by kernel_rfl) (by kernel_rfl) | (intro w;kernel_rfl)
theorem Nsb {t:TypeId} (h:t=56\/t=230\/t=95):∀w,(isAgg t).run Tryz.prog w=.ok true w:=by intro w;rcases h with rfl | rfl | rfl<;>kernel_rfl
theorem Na9 {r} (h:Fn.srtF g vs H=some r) {lim:Nat} (d:YI lim H r.2.2=true)
  (a:Inv (Prg.mk Tryz.prog Fn.pf) W lim σ H w) (c:OV σ vs b):Calls Tryz.prog g b.toArray w (Sj (Prg.mk Tryz.prog Fn.pf) W lim σ H r.1 (Nrq H r.2) w):=by
 unfold Fn.srtF at h;split at h
 ·rename_i e;subst e;exact Srt.sortF_calls Nqa Oda (Nsb (.inl rfl)) (by intro w;kernel_rfl) h d a c
 split at h
 ·rename_i e;subst e;exact Srt.sortF_calls Nqa Oc8 (Nsb (.inr (.inl rfl))) (by intro w;kernel_rfl) h d a c
 split at h
 ·rename_i e;subst e;exact Srt.sortF_calls Nqa Oc9 (Nsb (.inr (.inr rfl))) (by intro w;kernel_rfl) h d a c
 ·cases h
theorem Npg {r} (h:Fn.srtF g vs H=some r):∃fn,Tryz.prog.funcs[g]? = some fn/\fn.body.isSome=true/\(fn.name == "runtime.NumGoroutine")=false:=by
 unfold Fn.srtF at h;split at h
 ·rename_i e;subst e;obtain ⟨nm,d,h⟩:=Oda.f6;exact ⟨_,h,rfl,d⟩
 split at h
 ·rename_i e;subst e;obtain ⟨nm,d,h⟩:=Oc8.f6;exact ⟨_,h,rfl,d⟩
 split at h
 ·rename_i e;subst e;obtain ⟨nm,d,h⟩:=Oc9.f6;exact ⟨_,h,rfl,d⟩
 ·cases h
theorem Vt (o:Fn.OB) {r} (h:@Fn.effS o.toOA g vs H=some r):(∃q,o.toOA.eff g vs H=some q/\r=(q.1,q.2,none))\/Fn.srtF g vs H=some r:=by
 unfold Fn.effS at h;split at h
 ·rename_i q e;cases h;exact .inl ⟨q,e,rfl⟩
 ·exact .inr ((o.srtOk _ _ _).symm.trans h)
theorem Ns0:EnvOk Tryz.prog (@Fn.Ef off.toOA):=by
 have no:∀g xs v,(@Fn.Ef off.toOA).orc g xs≠some v:=by
  intro g xs v h;simp only [Fn.Ef,Fn.orc] at h;rw [Ng fun h=>by cases h.2.1] at h;cases h
 exact ⟨Fn.tr_ok,fun g xs v h=>absurd h (no g xs v),fun g xs v h=>absurd h (no g xs v),fun g xs v h=>absurd h (no g xs v),Fn.ok0.mixed,fun g xs H r h=>(Vt off h).elim (fun ⟨_,e,_⟩=>by cases e) Npg,fun g xs H r h lim hl c W σ w d a b=>(Vt off h).elim (fun ⟨_,e,_⟩=>by cases e) fun h=>Na9 h c a b⟩
theorem atoms (L:List Ev):∀x∈L.flatMap Fn.encE,atom x=true:=fun x a=>by
 obtain ⟨e,_,h⟩:=List.mem_flatMap.1 a;simp only [Fn.encE,Ns,O8,or_false] at h;rcases h with rfl | rfl | rfl | rfl | rfl | rfl | rfl<;>rfl
theorem Nn4 {L:List Ev} (h:NQ (@Fn.Ef off.toOA) false H.length g vs H fun v H'=>∃G p c,v=.tuple #[.slice p L.length c,Vi 0]/\H'=G++[]/\Own H.length G Fn.encE 7 p c L/\(L=[]->p=none)) {lim:Nat}
  (a:Inv (Prg.mk Tryz.prog Fn.pf) W lim σ H w) (i:OV σ vs b):Calls Tryz.prog g b.toArray w (Sj (Prg.mk Tryz.prog Fn.pf) W lim σ H (Fn.effL H.length L).1 (H++news (Fn.effL H.length L).2) w):=by
 unfold Fn.effL;by_cases hL:L=[]
 ·rw [Nl hL];subst hL;refine Nfv Ns0 rfl ?_ a i;refine NQ.mono h fun v H' e=>?_
  obtain ⟨G,p,c,rfl,_,d,hp⟩:=e;rcases d with ⟨_,rfl,rfl⟩ | ⟨R,rfl,rfl,f,_⟩
  ·rfl
  ·have:=hp rfl;cases this
 ·rw [Ng hL];refine Nwn Ns0 (atoms L) (NQ.mono h fun v H' e=>?_) a i;obtain ⟨G,p,c,rfl,rfl,d,_⟩:=e;rcases d with ⟨j,_⟩ | ⟨R,rfl,rfl,f,hl⟩
  ·exact absurd j hL
  ·exact ⟨R,rfl,by rw [Na];exact f,hl⟩
theorem Nis {r} (h:Fn.effO g vs H=some r) {lim:Nat} (a:Inv (Prg.mk Tryz.prog Fn.pf) W lim σ H w) (d:OV σ vs b):Calls Tryz.prog g b.toArray w (Sj (Prg.mk Tryz.prog Fn.pf) W lim σ H r.1 (H++news r.2) w):=by
 obtain ⟨i,p,c,S,rfl,hn,hs,rfl⟩:=Fn.effO_some h;by_cases hS:QK S
 ·rcases i with rfl | rfl
  ·have e:Fn.effR (decide ((36:Nat)=36)) H.length S=Fn.effL H.length (OH S).1:=Nl hS;rw [e];exact Nn4 (@Fn.Order_ok off (fun _ _=>rfl) _ _ _ _ _ _ hs hS (Nf _) fun G kp kc h1 _ f=>⟨G,kp,kc,rfl,rfl,h1,f⟩) a d
  ·have e:Fn.effR (decide ((27:Nat)=36)) H.length S=Fn.effL H.length (OH S).2:=Nl hS;rw [e];exact Nn4 (@Fn.Doubled_ok off (fun _ _=>rfl) _ _ _ _ _ _ hs hS (Nf _) fun G kp kc h1 _ f=>⟨G,kp,kc,rfl,rfl,h1,f⟩) a d
 ·rw [Fn.effR_no hS];rcases i with rfl | rfl
  ·exact Nfv Ns0 rfl (by rw [@Fn.Order_no off (fun _ _=>rfl) _ _ _ _ _ _ hs hn hS]) a d
  ·exact Nfv Ns0 rfl (by rw [@Fn.Doubled_no off (fun _ _=>rfl) _ _ _ _ _ _ hs hn hS]) a d
theorem N2t {r} (h:Fn.effO g vs H=some r):∃fn,Tryz.prog.funcs[g]? = some fn/\fn.body.isSome=true/\(fn.name == "runtime.NumGoroutine")=false:=by
 have key:∀{g af},Fn.tr g=some af->∃fn,Tryz.prog.funcs[g]? = some fn/\fn.body.isSome=true/\(fn.name == "runtime.NumGoroutine")=false:=fun {g af} h=>by
  obtain ⟨fn,body,md,c,rs,hfn,hb,hc,hrs,hn,_⟩:=XL (Fn.tr_ok g af h);exact ⟨fn,hfn,by rw [hb];rfl,hn⟩
 obtain ⟨hg,_⟩:=Fn.effO_some h;rcases hg with rfl | rfl
 ·exact key rfl
 ·exact key rfl
theorem N7v:EnvOk Tryz.prog (@Fn.E mid.toOA):=by
 have no:∀g xs v,(@Fn.E mid.toOA).orc g xs≠some v:=by
  intro g xs v h;simp only [Fn.E,Fn.orc] at h;rw [Ng fun h=>by cases h.2.1] at h;cases h
 exact ⟨Fn.tr_ok,fun g xs v h=>absurd h (no g xs v),fun g xs v h=>absurd h (no g xs v),fun g xs v h=>absurd h (no g xs v),Fn.ok0.mixed,fun g xs H r h=>(Vt mid h).elim (fun ⟨_,e,_⟩=>N2t e) Npg,fun g xs H r h lim hl d W σ w f a b=>(Vt mid h).elim (fun ⟨_,e,c⟩=>c▸Nis e a b) fun h=>Na9 h d a b⟩
theorem Ni1:∃n L,R4 (@Fn.E mid.toOA) n false 0 (.inl 18) [] []=some L/\∀r∈L,r.1=.bool true:=by
 have h:NQ (@Fn.E mid.toOA) false 0 18 [] [] (fun v H'=>v=.bool true):=by
  rw [@Fn.awake_go mid (fun _ _ _=>rfl) rfl]
 obtain ⟨n,L,h1,h2⟩:=h;exact ⟨n,L,h1,h2.2⟩
theorem Noh (w:World):Calls Tryz.prog 18 #[] w fun e w'=>e=.returned (.bool true)/\Below w.heap.size w w'/\w.drawn<=w'.drawn:=by
 obtain ⟨n,L,h,hL⟩:=Ni1;refine ((ZL N7v n).calls _ _ _ _ _ _ h (Nf _) _ _ w [] (Inv.nil (P:=Tryz.prog) (E:=@Fn.E mid.toOA) w) OV.nil).mono fun e w' hp=>?_
 obtain ⟨r,hr,v',c,rfl,b,_,a,_⟩:=hp;rw [hL r hr] at b;rw [b.bool_left];exact ⟨rfl,⟨a.os,a.tape,a.output.1,a.size,fun k hk=>a.block k (by omega)⟩,a.output.2⟩
theorem N3d:∃fn,Tryz.prog.funcs[18]? = some fn/\fn.body.isSome=true/\(fn.name == "runtime.NumGoroutine")=false:=by
 obtain ⟨n,L,h,_⟩:=Ni1;exact (ZL N7v n).fn _ _ _ _ _ _ h
theorem Oc1:EnvOk Tryz.prog (@Fn.E Nmf.toOA):=by
 have key:∀g xs v,(@Fn.E Nmf.toOA).orc g xs=some v->g=18/\xs=[]/\v=.bool true:=by
  intro g xs v h;simp only [Fn.E,Fn.orc] at h;split at h
  ·rename_i hc;cases h;exact ⟨hc.1,hc.2.2,rfl⟩
  ·cases h
 refine ⟨Fn.tr_ok,fun g xs v h=>?_,fun g xs v h w=>?_,fun g xs v h σ=>?_,Fn.ok0.mixed,fun g xs H r h=>(Vt Nmf h).elim (fun ⟨_,e,_⟩=>N2t e) Npg,fun g xs H r h lim hl d W σ w f a b=>(Vt Nmf h).elim (fun ⟨_,e,c⟩=>c▸Nis e a b) fun h=>Na9 h d a b⟩
 ·obtain ⟨rfl,rfl,rfl⟩:=key g xs v h;exact N3d
 ·obtain ⟨rfl,rfl,rfl⟩:=key g xs v h;exact Noh w
 ·obtain ⟨rfl,rfl,rfl⟩:=key g xs v h;exact .atom rfl
theorem own:ownKnob Tryz.prog.godebug=none:=by kernel_rfl
theorem laidOut:laidOutB Tryz.prog=true:=by kernel_rfl
theorem Odk:@Fn.EffOk Nmf:=fun _ _ _=>rfl
theorem Nkc {k:IntKind} {n:Int} {v:Value} (h:We (.int k) H n v):v=.int k n/\k.min<=n/\n<=k.max:=by
 unfold We at h;rw [Ng (by simp [isRow])] at h;obtain ⟨e,h⟩:=h;cases e;exact ⟨rfl,h⟩
end Go.Proofs.YtkppjkkkdpcgiaaGreat




