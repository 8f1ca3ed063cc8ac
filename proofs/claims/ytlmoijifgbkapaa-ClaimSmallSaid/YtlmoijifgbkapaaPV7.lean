/-
  Joined texts, 7 of 7. A part of the claim that the last text states.
-/
import Derived.Test.YtlmoijifgbkapaaProg
import Derived.Shelf.SlSortCmp.NoneTotal
import Derived.Test.YtlmoijifgbkapaaRows
import Derived.Test.YtlmoijifgbkapaaPV6
set_option linter.unusedVariables false
set_option linter.unusedSimpArgs false
set_option linter.defProp false
set_option linter.unusedSectionVars false
set_option maxRecDepth 100000
set_option maxHeartbeats 4000000
namespace Go.Proofs.Ytlmoijifgbkapaa.Fn
open Go.AM
theorem t1_:i1_.map (zTf Try.prog pf)=v1_.map some:=by kernel_rfl
theorem t2_:i2_.map (zTf Try.prog pf)=v2_.map some:=by kernel_rfl
theorem t3_:i3_.map (zTf Try.prog pf)=v3_.map some:=by kernel_rfl
theorem t4_:i4_.map (zTf Try.prog pf)=v4_.map some:=by kernel_rfl
theorem t5_:i5_.map (zTf Try.prog pf)=v5_.map some:=by kernel_rfl
theorem t6_:i6_.map (zTf Try.prog pf)=v6_.map some:=by kernel_rfl
def E0:Env:=⟨tr,pf,fun _ _=>none,false,fun _ _ _=>none⟩
theorem look_of {f:FuncId→Option zAf} {g:FuncId} {af:zAf}:∀(i:List FuncId) (v:List zAf),i.map f=v.map some→(i.zip v).lookup g=some af→f g=some af
 | [],_,_,h=>by simp at h
 | _::_,[],_,h=>by simp at h
 | x::i,y::v,e,h=>by
   simp only [List.map_cons,List.cons.injEq] at e
   simp only [List.zip_cons_cons,List.lookup] at h
   split at h
   ·rename_i q;cases h;rw [beq_iff_eq.1 q];exact e.1
   ·exact look_of i v e.2 h
theorem tr_ok (g:FuncId) (af:zAf) (h:tr g=some af):zTf Try.prog pf g=some af:=
 look_of ids fns (by simp only [ids,fns,List.map_append,t1_,t2_,t3_,t4_,t5_,t6_]) h
theorem ok0:EnvOk Try.prog E0:=⟨tr_ok,(fun _ _ _ h=>by cases h),(fun _ _ _ h=>by cases h),(fun _ _ _ h=>by cases h),by kernel_rfl,(fun _ _ _ _ h=>by cases h),(fun _ _ _ _ h=>by cases h)⟩
end Go.Proofs.Ytlmoijifgbkapaa.Fn

namespace Go.AM.Srt
open Go.AM Go.AM.Sym Go.Sort Go.Shelf Go.Proofs
section
variable {P:Program} {ρ:Ren} {E0:Env} {α:Type} [Inhabited α] {enc:α→List Value} {k:Nat} [K:EncOk enc k] {cl:FuncId} {cs:List Value} {c:α→α→Int} {W:Nat→Prop} {lim:Nat} {σ:Sig} {H:zH} {w:World}
theorem flatK_eq (l:List α):flatK enc k l.toArray=(l.flatMap enc).toArray:=by
 refine ext_get! (by simp [flat_len K.len]) fun t ht=>?_
 have ht':t<l.length*k:=by simpa using ht
 have k0:0<k:=by
  rcases Nat.eq_zero_or_pos k with h | h
  ·subst h;simp at ht'
  ·exact h
 rw [get_flatK _ _ _ t (by simpa using ht')]
 have hi:t / k<l.length:=Nat.div_lt_of_lt_mul (by rwa [Nat.mul_comm])
 have h1:=flat_drop K.len l (t / k) hi
 have h2:(l.flatMap enc)[t]? = (enc (gt l (t / k)))[t % k]?:=by
  rw [←h1,List.getElem?_take,if_pos (Nat.mod_lt _ k0),List.getElem?_drop,Nat.div_add_mod']
 have h3:l.toArray[t / k]! = gt l (t / k):=by
  rw [getElem!_pos _ _ (by simpa using hi)]
  simp [gt,List.getElem?_eq_getElem hi]
 rw [h3]
 simp only [getElem!_def,List.getElem?_toArray,h2]
theorem grown_of {W1 w':World} (h:Stp (fun b=>W1.heap.size≤b) W1 w'):∃q os,w'=grow (W1.drewN q) os:=by
 refine ⟨w'.drawn-W1.drawn,w'.heap.extract W1.heap.size w'.heap.size, ?_⟩
 have hh:w'.heap=W1.heap++w'.heap.extract W1.heap.size w'.heap.size:=by
  apply Array.ext_getElem?
  intro i
  rw [Array.getElem?_append]
  split
  ·exact h.block i (by omega)
  ·rename_i hi
   rw [Array.getElem?_extract]
   split
   ·congr 1;omega
   ·rw [Array.getElem?_eq_none (by omega)]
 obtain ⟨h1,h2,h3,h4,h5⟩:=h
 obtain ⟨a,b,c,d,e⟩:=w'
 simp only [grow,World.drewN,World.mk.injEq] at *
 exact ⟨hh,h2,by omega,h1,h3.1⟩
theorem cmp_lays (hE:EnvOk P E0) (hc:Cmp E0 enc cl cs c) (blk off size:Nat) (w:World):CmpLays P cl cs.toArray enc k c blk off size w:=by
 intro m os dk _ x y
 obtain ⟨n,L,h1,h2⟩:=hc.call x y
 have ag:∀z,zVr (fun _=>none) (.agg (enc z).toArray) (.agg (enc z).toArray):=fun z=>
  zVr.agg_iff.2 ⟨zLr.refl_of fun v hv=>.atom (K.ok z v (by simpa using hv)).1,fun v hv=>(K.ok z v (by simpa using hv)).2⟩
 have ha:zLr (fun _=>none) (.agg (enc x).toArray::.agg (enc y).toArray::cs) (.agg (enc x).toArray::.agg (enc y).toArray::cs):=
  zLr.cons (ag x) (zLr.cons (ag y) (zLr.refl_of fun v hv=>.atom (hc.atoms v hv)))
 have hcall:=(callOkS hE n).calls _ _ _ _ _ _ h1 (Nat.le_refl _) _ _ _ _ (Inv.nil (sortWorldK enc k w blk off m dk os) ⟨_,trivial,Nat.le_refl _,fun _ _=>rfl⟩) ha
 rw [show (Value.agg (enc x).toArray::.agg (enc y).toArray::cs).toArray=#[.agg (enc x).toArray,.agg (enc y).toArray]++cs.toArray by simp] at hcall
 refine hcall.mono fun e w' hp=>?_
 obtain ⟨r,hr,v',σ',rfl,q1,q2,q3,q4,q5⟩:=hp
 rw [h2.2 r hr] at q1
 exact ⟨by rw [q1.int_left],grown_of q3⟩
theorem sort_calls (hE:EnvOk P E0) (L:SlLaysF0.n6 P ρ) (aE:∀w,(isAgg (ρ.t 24)).run P w=.ok true w) (zE:∀w,(Go.sizeOf (ρ.t 24)).run P w=.ok k w) (hc:Cmp E0 enc cl cs c) {B cap:Nat} {l:List α} (hB:zG H B=.cells false (l.flatMap enc)) (h0:l≠[]) (hsz:l.length<4611686018427387904)
  (hlim:lim≤B) (hinv:Inv (Prg.mk P (Env.pure E0)) W lim σ H w) {as':List Value} (ha:zLr σ [.slice (some ⟨B,0,none⟩) l.length cap,.func (.func cl) #[] cs.toArray] as') :
  Calls P (ρ.f 6) as'.toArray w (CallPost (Prg.mk P (Env.pure E0)) W lim σ H (.tuple #[]) (H.set B (.cells false ((sortN c l).flatMap enc))++[]) w):=by
 obtain ⟨l1,l2⟩:=ha
 match as',l1,l2 with
 | [y0,y1],l1,l2=>
 have v0:=l2 0 _ _ rfl rfl
 have v1:=l2 1 _ _ rfl rfl
 obtain ⟨a',b',rfl,ra,rb⟩:=v1.func_left
 have ea:a'=#[]:=by have:=ra.1;simpa using this.symm
 have eb:b'=cs.toArray:=by
  apply Array.toList_inj.1
  rw [List.toList_toArray]
  apply List.ext_getElem (by simpa using rb.1.symm)
  intro i h1 h2
  exact (rb.2 i _ _ (by simp [h2]) (List.getElem?_eq_getElem h1)).eq_of_atom (hc.atoms _ (by simp))
 subst ea eb
 obtain ⟨_,L1,hL,hcs⟩:=v0.slice_left
 have hlen:l.length≠0:=fun h=>h0 (List.length_eq_zero_iff.1 h)
 obtain ⟨cap',rfl⟩:∃c',y0=.slice (some ⟨L1.blk,L1.base,none⟩) l.length c':=by
  rcases hcs with ⟨_,h⟩ | ⟨_,_,c',_,_,h⟩ | ⟨_,_,h,_⟩
  ·exact ⟨_,h⟩
  ·exact ⟨_,h⟩
  ·exact absurd h hlen
 have hi:=hget_some hB rfl
 obtain ⟨L2,hL2,hBl⟩:=hinv.blk B _ hi rfl
 rw [hL] at hL2;cases hL2
 obtain ⟨cells,el,fz,g1,g2,g3⟩:=hBl
 obtain ⟨g4,g5,g6⟩:=g3 rfl
 have hat:∀(m:List α),∀v∈m.flatMap enc,atom v=true∧v.oneCell'=true:=fun m v hv=>by
  obtain ⟨x,_,h⟩:=List.mem_flatMap.1 hv
  exact K.ok x v h
 have hcell:∀(j:Nat) v,(l.flatMap enc)[j]? = some v→cells[L1.base+j]? = some v:=fun j v hv=>by
  obtain ⟨v',k1,k2,_⟩:=g2 j v hv
  rw [k2.eq_of_atom (hat l v (List.mem_of_getElem? hv)).1] at k1;exact k1
 have hfl:(l.flatMap enc).length=l.length*k:=flat_len K.len l
 have hcl:L1.base+l.length*k≤cells.size:=by rw [←hfl];omega
 have hH:HoldsK enc k w L1.blk L1.base l.toArray:=by
  intro j hj
  rw [flatK_eq] at *
  have hj':j<(l.flatMap enc).length:=by simpa using hj
  refine ⟨?_, ?_⟩
  ·show World.cell? w _=some ((l.flatMap enc).toArray[j]!)
   rw [getElem!_pos _ _ (by simpa using hj')]
   simp only [World.cell?,g1]
   exact hcell j _ (by simp [List.getElem?_eq_getElem hj'])
  ·simp only [World.frozen?,g1]
   simpa using g6.ok (L1.base+j) (by omega)
 have hblk:L1.blk<w.heap.size:=(Array.getElem?_eq_some_iff.1 g1).1
 obtain ⟨af,haf⟩:=hc.fn
 obtain ⟨fn,body,md,co,rs,hfn,hb,_,_,hn,_⟩:=trFunc_inv (hE.tr _ _ haf)
 have hcall:Calls P (ρ.f 6) _ w _:=AnyQ.slices_SortFunc_eq L k aE zE enc K.len (fun x v hv=>(K.ok x v hv).2) c hc.swo cl cs.toArray L1.blk L1.base cap' l.toArray w (enters_of hfn hn hb) (cmp_lays hE hc _ _ _ _) hH hblk (by simpa using hsz)
 have hsl:=sortN_len hc.swo l
 simp only [List.size_toArray] at hcall
 have eD:pdq (ltOf c) l.toArray 0 l.length (Lib.bitLen l.length) true true=(sortN c l).toArray:=by
  show pdq (ltC c) l.toArray 0 l.length (Lib.bitLen l.length) true true=_
  simp [sortN]
 rw [eD] at hcall
 refine hcall.mono fun e w' hp=>?_
 obtain ⟨rfl,m,os,rfl⟩:=hp
 rw [List.append_nil]
 have hfl2:((sortN c l).flatMap enc).length=l.length*k:=by rw [flat_len K.len,hsl]
 have hheap:(sortWorldK enc k w L1.blk L1.base m (sortN c l).toArray os).heap=w.heap.modify L1.blk (onCells (putCells id L1.base ((sortN c l).flatMap enc).toArray))++os:=by
  unfold sortWorldK putRowK
  rw [flatK_eq];rfl
 have hW1:∀(w1:World),w1.heap=w.heap.modify L1.blk (onCells (putCells id L1.base ((sortN c l).flatMap enc).toArray))→Inv (Prg.mk P (Env.pure E0)) W lim σ (H.set B (.cells false ((sortN c l).flatMap enc))) w1:=fun w1 h1=>by
  refine hinv.rewrite hi rfl hlim hL (by rw [h1];simp) (fun j hj=>by rw [h1,Array.getElem?_modify,if_neg (Ne.symm hj)]) ⟨putCells id L1.base ((sortN c l).flatMap enc).toArray cells,el,fz, ?_,fun j v hv=>?_,fun _=>⟨?_, ?_, ?_⟩⟩ (fun _=>rfl)
  ·rw [h1,Array.getElem?_modify,if_pos rfl,g1];rfl
  ·have hj:=(List.getElem?_eq_some_iff.1 hv).1
   refine ⟨v, ?_,.atom (hat _ v (List.mem_of_getElem? hv)).1,(hat _ v (List.mem_of_getElem? hv)).2⟩
   unfold putCells
   rw [Array.getElem?_mapIdx,Array.getElem?_eq_getElem (by omega),Option.map_some,if_pos ⟨by omega,by rw [List.size_toArray];omega⟩]
   rw [show L1.base+j-L1.base=j by omega,getElem!_pos _ _ (by simpa using hj)]
   simp [←hv,List.getElem?_eq_getElem hj]
  ·simpa [putCells] using g4
  ·rw [hfl2,←hfl];exact g5
  ·simpa [putCells] using g6
 have hI:=(hW1 { w with heap:=w.heap.modify L1.blk (onCells (putCells id L1.base ((sortN c l).flatMap enc).toArray)) } rfl).world (w':=sortWorldK enc k w L1.blk L1.base m (sortN c l).toArray os) (by rw [hheap];simp) (fun b hb=>by rw [hheap,Array.getElem?_append_left hb])
 refine ⟨.tuple #[],σ,rfl,.atom rfl,hI,⟨rfl,rfl,⟨rfl,Nat.le_add_right _ _⟩,by rw [hheap];simp,fun b hb=>?_⟩,Sig.le_refl _,fun j hj=>absurd rfl hj⟩
 have hb1:b<w.heap.size:=Nat.lt_of_not_le fun h=>hb (hinv.fresh b h)
 have hb2:L1.blk≠b:=fun e=>hb (e▸hinv.wr B _ L1 hi rfl hlim hL)
 rw [hheap,Array.getElem?_append_left (by simpa using hb1),Array.getElem?_modify,if_neg hb2]
theorem none_calls (L:SlLaysF0.n6 P ρ) {p:Option Addr} {cap:Nat} {f:Value} (hinv:Inv (Prg.mk P (Env.pure E0)) W lim σ H w) {as':List Value} (ha:zLr σ [.slice p 0 cap,f] as') :
  Calls P (ρ.f 6) as'.toArray w (CallPost (Prg.mk P (Env.pure E0)) W lim σ H (.tuple #[]) (H++[]) w):=by
 obtain ⟨l1,l2⟩:=ha
 match as',l1,l2 with
 | [y0,y1],l1,l2=>
 have v0:=l2 0 _ _ rfl rfl
 obtain ⟨p',c',rfl⟩:∃p' c',y0=.slice p' 0 c':=by cases v0<;>exact ⟨_,_,rfl⟩
 refine (AnyF.slices_SortFunc_none L p' c' y1 w).mono fun e w' hp=>?_
 obtain ⟨rfl,rfl⟩:=hp
 rw [List.append_nil]
 exact ⟨.tuple #[],σ,rfl,.atom rfl,hinv,Stp.refl _ _,Sig.le_refl _,fun j hj=>absurd rfl hj⟩
theorem sortF_calls (hE:EnvOk P E0) (L:SlLaysF0.n6 P ρ) (aE:∀w,(isAgg (ρ.t 24)).run P w=.ok true w) (zE:∀w,(Go.sizeOf (ρ.t 24)).run P w=.ok k w) {xs:List Value} {r} (h:sortF E0 enc xs H=some r) (hu:updOk lim H r.2.2=true)
  (hinv:Inv (Prg.mk P (Env.pure E0)) W lim σ H w) {as':List Value} (ha:zLr σ xs as'):Calls P (ρ.f 6) as'.toArray w (CallPost (Prg.mk P (Env.pure E0)) W lim σ H r.1 (effH H r.2) w):=by
 unfold sortF at h
 split at h
 ·rename_i hx
  cases h
  obtain ⟨h0,hs,hB,cap,cl,cs,e,hc⟩:=hx.choose_spec
  rw [e] at ha
  simp only [updOk,Bool.and_eq_true,decide_eq_true_eq] at hu
  exact sort_calls hE L aE zE hc hB h0 hs hu.1 hinv ha
 ·split at h
  ·rename_i hx
   cases h
   obtain ⟨p,cap,f,rfl⟩:=hx
   exact none_calls L hinv ha
  ·cases h
end
end Go.AM.Srt

namespace Go.Proofs.Ytlmoijifgbkapaa
open Go.AM Go.AM.Sym Go.RowKit Go.Shelf
theorem okBase:EnvOk Try.prog Fn.Eb:=by
 have no:∀g xs v,Fn.Eb.orc g xs≠some v:=by
  intro g xs v h
  simp only [Fn.Eb,Fn.E,Fn.orc] at h
  rw [if_neg fun h=>by cases h.2.1] at h
  cases h
 exact ⟨Fn.tr_ok,fun g xs v h=>absurd h (no g xs v),fun g xs v h=>absurd h (no g xs v),fun g xs v h=>absurd h (no g xs v),Fn.ok0.mixed,fun g xs H r h=>(by cases h),fun g xs H r h=>(by cases h)⟩
def renC:Ren:=⟨fun x=>(([6,15,14,28,29,20,21,22,23,24,25,26,27,46,47,48,49,50,57].zip [50,66,65,86,87,78,79,80,81,82,83,84,85,95,96,97,98,99,100]).lookup x).getD x,fun x=>(([22,25,24,3,39,0,53,55,4,46,45,50,5,9,66,70,76,77].zip [48,100,31,3,124,0,136,138,4,129,128,133,5,9,143,95,148,72]).lookup x).getD x,fun x=>x⟩
theorem bears_of {f:FuncId} {g:Func} (h:Try.prog.funcs[f]? = some { g with name:=((Try.prog.funcs[f]?).getD default).name }) (d:(((Try.prog.funcs[f]?).getD default).name == "runtime.NumGoroutine")=false):Bears Try.prog f g:=⟨_,d,h⟩
theorem layC:SlLaysF0.n6 Try.prog renC:=by constructor<;>first | kernel_rfl | exact bears_of (by kernel_rfl) (by kernel_rfl) | (intro w;kernel_rfl)
theorem srt_calls {g:FuncId} {vs:List Value} {H:zH} {r} (h:Fn.srtF g vs H=some r) {lim:Nat} (hu:updOk lim H r.2.2=true) {W:Nat→Prop} {σ:Sig} {w:World} {vs':List Value}
  (hinv:Inv (Prg.mk Try.prog Fn.pf) W lim σ H w) (ha:zLr σ vs vs'):Calls Try.prog g vs'.toArray w (CallPost (Prg.mk Try.prog Fn.pf) W lim σ H r.1 (effH H r.2) w):=by
 unfold Fn.srtF at h
 split at h
 ·rename_i e;subst e
  exact Srt.sortF_calls okBase layC (by intro w;kernel_rfl) (by intro w;kernel_rfl) h hu hinv ha
 ·cases h
theorem srt_fn {g:FuncId} {vs:List Value} {H:zH} {r} (h:Fn.srtF g vs H=some r):∃fn,Try.prog.funcs[g]? = some fn∧fn.body.isSome=true∧(fn.name == "runtime.NumGoroutine")=false:=by
 unfold Fn.srtF at h
 split at h
 ·rename_i e;subst e;obtain ⟨nm,d,h⟩:=layC.f6;exact ⟨_,h,rfl,d⟩
 ·cases h
theorem awake_run:∃n,aCall Fn.E0 n false 0 (.inl 10) [] []=some [(.bool true,[])]:=⟨1000,by kernel_rfl⟩
theorem awake_calls (w:World) (hw:Held (Prg.mk Try.prog Fn.pf) w):Calls Try.prog 10 #[] w fun e w'=>e=.returned (.bool true)∧Below w.heap.size w w'∧w.drawn≤w'.drawn:=by
 obtain ⟨n,h⟩:=awake_run
 refine ((callOkS Fn.ok0 n).calls _ _ _ _ _ _ h (Nat.le_refl _) _ _ w [] (Inv.nil (P:=Try.prog) (E:=Fn.E0) w hw) zLr.nil).mono fun e w' hp=>?_
 obtain ⟨r,hr,v',σ',rfl,hv,_,hst,_⟩:=hp
 rw [List.mem_singleton.1 hr] at hv
 rw [hv.bool_left]
 exact ⟨rfl,⟨hst.os,hst.tape,hst.output.1,hst.size,fun k hk=>hst.block k (by omega)⟩,hst.output.2⟩
theorem awake_fn:∃fn,Try.prog.funcs[10]? = some fn∧fn.body.isSome=true∧(fn.name == "runtime.NumGoroutine")=false:=by
 obtain ⟨n,h⟩:=awake_run
 exact (callOkS Fn.ok0 n).fn _ _ _ _ _ _ h
noncomputable abbrev on40:Fn.OB:=@Fn.OB.mk ⟨true,Fn.srtF,Fn.srtF_no⟩ (fun _ _ _=>rfl) rfl
theorem okE40:EnvOk Try.prog (@Fn.E on40.toOA):=by
 have key:∀g xs v,(@Fn.E on40.toOA).orc g xs=some v→g=10∧xs=[]∧v=.bool true:=by
  intro g xs v h
  simp only [Fn.E,Fn.orc] at h
  split at h
  ·rename_i hc;cases h
   exact ⟨hc.1,hc.2.2,rfl⟩
  ·cases h
 refine ⟨Fn.tr_ok,fun g xs v h=>?_,fun g xs v h w hw=>?_,fun g xs v h σ=>?_,Fn.ok0.mixed,fun g xs H r h=>srt_fn h,fun g xs H r h lim hl hu W σ w vs' hinv ha=>srt_calls h hu hinv ha⟩
 ·obtain ⟨rfl,rfl,rfl⟩:=key g xs v h;exact awake_fn
 ·obtain ⟨rfl,rfl,rfl⟩:=key g xs v h;exact awake_calls w hw
 ·obtain ⟨rfl,rfl,rfl⟩:=key g xs v h;exact .atom rfl
theorem own:ownKnob Try.prog.godebug=none:=by kernel_rfl
theorem laidOut:laidOutB Try.prog=true:=by kernel_rfl
end Go.Proofs.Ytlmoijifgbkapaa

