/-
  Joined texts, 2 of 7. A part of the claim that the last text states.
-/
import Derived.ChangeKeysEq
import Derived.RangeFuncRecord
import Derived.OrdersIn
import Derived.Test.YtlmoijifgbkapaaPV1
set_option linter.unusedVariables false
set_option linter.unusedSimpArgs false
set_option linter.defProp false
set_option linter.unusedSectionVars false
set_option maxRecDepth 100000
set_option maxHeartbeats 4000000
namespace Go.AM
open Go.MapKept
section
variable {P:Program} {Pg:Prg} {W:Nat→Prop} {lim:Nat} {σ:Sig} {H H':zH} {w:World} {dest:Option Nat} {ρ ρ':Operand→Value} {v:Value}
theorem delete_run (hinv:Inv Pg W lim σ H w) {t kt e ty:TypeId} (hu:P.underlying t=some (.map kt e)) {kk:KK} (hk:keyKind P kt=some kk) {m key:Operand} (hm:zVr σ (ρ m) (ρ' m)) (hkey:zVr σ (ρ key) (ρ' key))
  (hx:aOp lim dest (.delete kk m key) ρ H=some (v,H')) {ats:Array TypeId} (hat:ats[0]? = some t):∃w',(Builtin.delete_ ats ty #[ρ' m,ρ' key]).run P w=.ok (.tuple #[]) w'∧Inv Pg W lim σ H' w'∧Stp W w w'∧H'.length=H.length∧v=.tuple #[]:=by
 simp only [aOp] at hx
 cases hx
theorem minmax_sound (mx:Bool) {x y z:Value} (h:aMinMax mx x y=some z):(if mx then Builtin.max2 x y else Builtin.min2 x y).run P w=.ok z w∧∃k n,z=.int k n:=by
 unfold aMinMax at h
 split at h
 ·split at h
  ·rename_i hk
   cases h;subst hk
   cases mx<;>simp [Builtin.min2,Builtin.max2]
  ·cases h
 ·cases h
theorem minmaxAll_sound (mx:Bool):∀(ys ys':List Value) (x x' r:Value),zVr σ x x'→zLr σ ys ys'→aMinMaxAll mx x ys=some r→
  ∃r',(ys'.foldlM (if mx then Builtin.max2 else Builtin.min2) x').run P w=.ok r' w∧zVr σ r r'
 | [],ys',x,x',r,hx,hy,h=>by
   have:ys'=[]:=by have:=hy.1;simpa using this.symm
   subst this
   simp [aMinMaxAll] at h;subst h
   exact ⟨x',by simp,hx⟩
 | y::ys,ys',x,x',r,hx,hy,h=>by
   cases ys' with
   | nil=>have:=hy.1;simp at this
   | cons y' ys'=>
     simp only [aMinMaxAll] at h
     split at h
     case h_2=>cases h
     rename_i z hz
     have hxy:x'=x∧y'=y:=by
      unfold aMinMax at hz
      split at hz
      ·exact ⟨hx.int_left,hy.head.int_left⟩
      ·cases hz
     obtain ⟨rfl,rfl⟩:=hxy
     obtain ⟨h1,k,n,rfl⟩:=minmax_sound (P:=P) (w:=w) mx hz
     obtain ⟨r',h2,h3⟩:=minmaxAll_sound mx ys ys' _ _ r (.atom rfl) hy.tail h
     refine ⟨r', ?_,h3⟩
     rw [List.foldlM_cons,Sem.run_bind]
     have:((if mx then Builtin.max2 else Builtin.min2) x' y').run P w=.ok (.int k n) w:=by cases mx<;>simpa using h1
     rw [this]
     exact h2
theorem bytes_fold:∀(ns:List Int) (s:ByteArray),ns.foldl (fun r n=>r.push (UInt8.ofNat n.toNat)) s=⟨s.data++(ns.map fun n=>UInt8.ofNat n.toNat).toArray⟩
 | [],s=>by simp
 | n::ns,s=>by
   rw [List.foldl_cons,bytes_fold ns]
   simp [ByteArray.push]
theorem bytesOf_ints:∀{cs:List Value} {bs:List UInt8},bytesOf cs=some bs→∃ns:List Int,cs=ns.map (Value.int .u8)∧bs=ns.map fun n=>UInt8.ofNat n.toNat
 | [],bs,h=>by simp [bytesOf] at h;subst h;exact ⟨[],rfl,rfl⟩
 | c::cs,bs,h=>by
   unfold bytesOf at h
   split at h
   ·rename_i h1 h2;cases h2
   ·rename_i n l h1
    split at h
    ·rename_i bs' hb
     cases h
     obtain ⟨ns,h2,h3⟩:=bytesOf_ints hb
     cases h1
     exact ⟨n::ns,by simp [h2],by simp [h3]⟩
    ·cases h
   ·cases h
theorem b2s_sound (hinv:Inv Pg W lim σ H w) {s d e:TypeId} (hs:P.underlying s=some (.slice e)) (he:P.underlying e=some (.int .u8)) (hd:P.underlying d=some .string) {x:Operand} (hv:zVr σ (ρ x) (ρ' x))
  (hx:aOp lim dest (.b2s x) ρ H=some (v,H')):∃v',(convert s d (ρ' x)).run P w=.ok v' w∧zVr σ v v'∧H'=H:=by
 simp only [aOp] at hx
 split at hx
 ·rename_i n c hr
  rw [hr] at hv
  obtain ⟨rfl,rfl,h2⟩:=hv.nilslice_left
  simp at hx
  obtain ⟨rfl,rfl⟩:=hx
  rw [h2,run_convert_bytes_string w s d e none 0 0 hs he hd]
  exact ⟨.string .empty,by simp [Conv.bytesToString],.atom rfl,rfl⟩
 ·rename_i a n c hr
  split at hx
  case h_2=>cases hx
  rename_i cs hcs
  split at hx
  case h_2=>cases hx
  rename_i bs hbs
  cases hx
  rw [hr] at hv
  obtain ⟨ns,hns,hb⟩:=bytesOf_ints hbs
  obtain ⟨hsp,L,hL,hc⟩:=hv.slice_left
  have fin:∀(a':Addr) c',ρ' x=.slice (some a') n c'→(Go.loadCells a' n).run P w=.ok (ns.map (Value.int .u8)).toArray w→∃v',(convert s d (ρ' x)).run P w=.ok v' w∧zVr σ (.string ⟨bs.toArray⟩) v'∧H=H:=by
   intro a' c' hx' hl
   refine ⟨_,by rw [hx',run_convert_bytes_string w s d e (some a') n c' hs he hd,run_bytesToString w a' n c' ns hl], ?_,rfl⟩
   rw [bytes_fold,hb]
   have e:(ByteArray.empty.data++(ns.map fun n=>UInt8.ofNat n.toNat).toArray)=(ns.map fun n=>UInt8.ofNat n.toNat).toArray:=by
    show (#[]:Array UInt8)++_=_
    simp
   rw [e]
   exact .atom rfl
  have norm:∀c',ρ' x=.slice (some ⟨L.blk,L.base+a.off,none⟩) n c'→∃v',(convert s d (ρ' x)).run P w=.ok v' w∧zVr σ (.string ⟨bs.toArray⟩) v'∧H=H:=by
   intro c' hx'
   obtain ⟨l',h1,h2,h3,h4⟩:=loadN_run (P:=P) hinv hL hcs
   refine fin _ c' hx' ?_
   rw [h1]
   congr 2
   apply List.ext_getElem?
   intro j
   cases hj:cs[j]? with
   | none=>
     have:l'[j]? = none:=by
      rw [List.getElem?_eq_none_iff] at hj⊢
      rw [←h2.1];exact hj
     rw [this,←hns,hj]
   | some y=>
     obtain ⟨y',g1,g2⟩:=h2.get hj
     rw [g1,←hns,hj]
     have:∃k n,y=.int k n:=by
      have hm:=List.mem_of_getElem? hj
      rw [hns] at hm
      obtain ⟨q,_,rfl⟩:=List.mem_map.1 hm
      exact ⟨_,_,rfl⟩
     obtain ⟨k,n,rfl⟩:=this
     rw [g2.int_left]
  rcases hc with ⟨_,hx'⟩ | ⟨e',_,c',_,_,hx'⟩ | ⟨a',_,h0,hx'⟩
  ·exact norm _ hx'
  ·exact norm _ hx'
  ·subst h0
   have hnil:cs=[]:=by
    unfold AM.loadCells at hcs
    split at hcs
    ·split at hcs
     ·simp at hcs;exact hcs
     ·cases hcs
    ·cases hcs
   have hns0:ns=[]:=by rw [hnil] at hns;simpa using hns.symm
   subst hns0
   exact fin a' 0 hx' (by simpa using run_loadCells_list (P:=P) w a' [] (by simp))
 ·cases hx
theorem rowMark_sound (hinv:Inv Pg W lim σ H w) {t e:TypeId} (ht:P.underlying t=some (.slice e)) (he:P.underlying e=some (.int .u8)) {x:Operand} (hxv:zVr σ (ρ x) (ρ' x)) (hx:aOp lim dest (.rowMark x) ρ H=some (v,H'))
  {o:Oper}:zOs Pg W lim σ dest H w ((execOp ρ' { o with op:=.convert t t x }).run P w) v H':=by
 simp only [aOp] at hx
 split at hx
 case h_2=>cases hx
 rename_i a n c hρ
 split at hx
 case h_2=>cases hx
 rename_i cells hb
 split at hx
 case isFalse=>cases hx
 rename_i hc
 obtain ⟨hlim,hn⟩:=hc
 simp only [Option.some.injEq,Prod.mk.injEq] at hx
 obtain ⟨rfl,rfl⟩:=hx
 rw [hρ] at hxv
 obtain ⟨hsp,L,hL,h3⟩:=hxv.slice_left
 obtain ⟨cs,el,fz,hh,hcc,ho⟩:=hinv.cells hb hL
 obtain ⟨ho1,ho2,ho3⟩:=ho rfl
 have key:∃c',ρ' x=.slice (some ⟨L.blk,L.base+a.off,none⟩) n c':=by
  rcases h3 with ⟨_,h⟩ | ⟨e',_,c',_,_,h⟩ | ⟨_,_,h,_⟩
  ·exact ⟨_,h⟩
  ·exact ⟨_,h⟩
  ·exact absurd h hn
 obtain ⟨c',hρ'⟩:=key
 have hsh:w.shape? L.blk=some (el,cs.size):=by unfold World.shape?;rw [hh]
 have hlt:L.blk<w.heap.size:=(Array.getElem?_eq_some_iff.1 hh).1
 have hrun:(convert t t (.slice (some ⟨L.blk,L.base+a.off,none⟩) n c')).run P w=.ok (.slice (some ⟨L.blk,L.base+a.off,none⟩) n c') (w.freeze ⟨L.blk,cs.size,none⟩ 1):=by
  simp [convert,run_underlying ht,run_underlying he,markStringish,hsh]
 have hfz:∃fz',(w.freeze ⟨L.blk,cs.size,none⟩ 1).heap[L.blk]? = some (.cells cs el fz')∧NoFz fz' cs.size:=by
  obtain ⟨lo,hi⟩:=fz
  unfold World.freeze
  rw [if_neg (by decide)]
  simp only [Array.getElem?_modify,if_pos,hh,Option.map_some]
  refine ⟨_,rfl, ?_⟩
  unfold NoFz at ho3⊢
  simp only at ho3
  right
  split
  ·exact Nat.le_refl _
  ·rename_i hne
   have:lo≠hi:=by simpa using hne
   simp only
   omega
 have hoth:∀k,k≠L.blk→(w.freeze ⟨L.blk,cs.size,none⟩ 1).heap[k]? = w.heap[k]?:=fun k hk=>by
  unfold World.freeze
  rw [if_neg (by decide)]
  simp only [Array.getElem?_modify]
  rw [if_neg (Ne.symm hk)]
 have hsz:(w.freeze ⟨L.blk,cs.size,none⟩ 1).heap.size=w.heap.size:=by
  unfold World.freeze
  rw [if_neg (by decide)]
  simp
 obtain ⟨fz',hh',hno⟩:=hfz
 have hbs:=hget_some hb rfl
 have hset:H.set a.block (.cells false cells)=H:=by
  apply List.ext_getElem?
  intro j
  rw [List.getElem?_set]
  split
  ·rename_i e;subst e
   rw [hbs,if_pos (List.getElem?_eq_some_iff.1 hbs).1]
  ·rfl
 have hi:=hinv.rewrite (b':=.cells false cells) hbs rfl hlim hL hsz hoth ⟨cs,el,fz',hh',hcc,fun _=>⟨ho1,ho2,hno⟩⟩ (fun _=>rfl)
 rw [hset] at hi
 refine ⟨.value (ρ' x),w.freeze ⟨L.blk,cs.size,none⟩ 1,σ,ρ' x, ?_,rfl,hxv,hi,Stp.one (hinv.wr _ _ _ hbs rfl hlim hL) hoth hsz ?_ ?_ ⟨?_,Nat.le_of_eq ?_⟩,Sig.le_refl _,fun j hj=>absurd rfl hj,Nat.le_refl _,fun _=>rfl⟩
 ·simp only [execOp]
  refine zRv P _ _ ?_
  rw [hρ']
  exact hrun
 all_goals (unfold World.freeze;rw [if_neg (by decide)])
end
section
variable {P:Program} {Pg:Prg} {W:Nat→Prop} {lim:Nat} {σ:Sig} {H H':zH} {w:World} {dest:Option Nat} {ρ ρ':Operand→Value} {v:Value}
theorem zOs.wrote (hinv:Inv Pg W lim σ H w) {run:Result Next} {nx:Next} {v':Value} {w':World} (hr:run=.ok nx w') (hn:nextVal nx=some v') (hv:zVr σ v v') (hi:Inv Pg W lim σ H' w') (hs:Stp W w w') (hl:H'.length=H.length) :
  zOs Pg W lim σ dest H w run v H':=⟨nx,w',σ,v',hr,hn,hv,hi,hs,Sig.le_refl σ,fun j hj=>absurd rfl hj,by omega,fun _=>hl⟩
theorem lrel_map_rho {l:List Operand} (h:∀x∈l,zVr σ (ρ x) (ρ' x)):zLr σ (l.map ρ) (l.map ρ'):=zLr.map l ρ ρ' h
theorem len_run {ats:Array TypeId} {ty t:TypeId} {x:Value} (h0:ats[0]? = some t) :
  (P.underlying t=some .string→∀s,x=.string s→(Builtin.len_ ats ty #[x]).run P w=.ok (.int .i64 s.size) w)∧
  ((∃e,P.underlying t=some (.slice e))→∀a n c,x=.slice a n c→(Builtin.len_ ats ty #[x]).run P w=.ok (.int .i64 n) w)∧
  (∀n e,P.underlying t=some (.array n e)→(Builtin.len_ ats ty #[x]).run P w=.ok (.int .i64 n) w):=by
 refine ⟨fun hu s hx=>?_,fun ⟨e,hu⟩ a n c hx=>?_,fun n e hu=>?_⟩
 ·subst hx;simp [Builtin.len_,h0,run_underlying hu,goInt]
 ·subst hx;simp [Builtin.len_,h0,run_underlying hu,goInt]
 ·cases x<;>simp [Builtin.len_,h0,run_underlying hu,goInt]
theorem builtin_run (b:Builtin) (ats:Array TypeId) (ty:TypeId) (cs:Array Bool) (args:Array Value) (s:Sem Value) {x:Value} {w':World} (hb:builtin b ats ty cs args=(do pure (.value (←s)))) (h:s.run P w=.ok x w') :
  (builtin b ats ty cs args).run P w=.ok (.value x) w':=by
 rw [hb];simp [h]
theorem call_builtin (o:Oper) (c:Call) (b:Builtin) (ho:o.op=.call c) (hc:c.callee=.builtin b) :
  execOp ρ' o=builtin b c.argTypes o.type (c.args.map fun | .const _=>true | _=>false) (c.args.map ρ'):=by
 simp only [execOp,ho,resolve,hc]
 rfl
theorem args_one {a:Array Operand} {x:Operand} (h:a.toList=[x]):a.map ρ'=#[ρ' x]:=by
 apply Array.ext';simp [h]
theorem args_two {a:Array Operand} {x y:Operand} (h:a.toList=[x,y]):a.map ρ'=#[ρ' x,ρ' y]:=by
 apply Array.ext';simp [h]
theorem types_get {a:Array TypeId} {t:TypeId} {l:List TypeId} (h:a.toList=t::l):a[0]? = some t:=by
 rw [←Array.getElem?_toList,h];rfl
theorem copy_sound (hinv:Inv Pg W lim σ H w) {dt e ty:TypeId} {ats:Array TypeId} (hat:ats[0]? = some dt) (hu:P.underlying dt=some (.slice e)) {esz:Nat} (hes:zSz P e=some esz) {d x:Operand} (hd:zVr σ (ρ d) (ρ' d)) (hxv:zVr σ (ρ x) (ρ' x))
  (hx:aOp lim dest (.copy esz d x) ρ H=some (v,H')):∃w' v',(Builtin.copy_ ats ty #[ρ' d,ρ' x]).run P w=.ok v' w'∧zVr σ v v'∧Inv Pg W lim σ H' w'∧Stp W w w'∧H'.length=H.length:=by
 simp only [aOp] at hx
 split at hx
 case h_2=>cases hx
 rename_i base dl dc sl hdv hsl
 have read:∀cs,copyCells H esz (min sl dl) (ρ x)=some cs→
   ∃cs',(Builtin.lenOf (ρ' x)).run P w=.ok sl w∧(Builtin.firstCells esz (min sl dl) (ρ' x)).run P w=.ok cs'.toArray w∧zLr σ cs cs'∧(∀y∈cs',y.oneCell'=true):=by
  intro cs hcs
  cases hxx:ρ x with
  | slice a n c=>
    rw [hxx] at hcs hxv hsl
    simp [lenOf] at hsl;subst hsl
    cases a with
    | none=>
      obtain ⟨rfl,rfl,h2⟩:=hxv.nilslice_left
      simp [copyCells] at hcs;subst hcs
      rw [h2]
      exact ⟨[],by simp [Builtin.lenOf],by simp [Builtin.firstCells],zLr.nil,fun y hy=>by simp at hy⟩
    | some a=>
      simp only [copyCells] at hcs
      obtain ⟨hsp,L,hL,hc⟩:=hxv.slice_left
      have norm:∀c',ρ' x=.slice (some ⟨L.blk,L.base+a.off,none⟩) n c'→∃cs',(Builtin.lenOf (ρ' x)).run P w=.ok n w∧(Builtin.firstCells esz (min n dl) (ρ' x)).run P w=.ok cs'.toArray w∧zLr σ cs cs'∧(∀y∈cs',y.oneCell'=true):=by
       intro c' hx'
       obtain ⟨l',h1,h2,h3,h4⟩:=loadN_run (P:=P) hinv hL hcs
       exact ⟨l',by rw [hx'];simp [Builtin.lenOf],by rw [hx'];simpa [Builtin.firstCells] using h1,h2,h4⟩
      rcases hc with ⟨_,hx'⟩ | ⟨e',_,c',_,_,hx'⟩ | ⟨a',_,h0,hx'⟩
      ·exact norm _ hx'
      ·exact norm _ hx'
      ·subst h0
       have hnil:cs=[]:=by
        unfold AM.loadCells at hcs
        split at hcs
        ·split at hcs
         ·simp at hcs;exact hcs
         ·cases hcs
        ·cases hcs
       subst hnil
       have h0:(Go.loadCells a' 0).run P w=.ok #[] w:=by simpa using run_loadCells_list (P:=P) w a' [] (by simp)
       exact ⟨[],by rw [hx'];simp [Builtin.lenOf],by rw [hx'];simpa [Builtin.firstCells] using h0,zLr.nil,fun y hy=>by simp at hy⟩
  | string s=>
    rw [hxx] at hcs hxv hsl
    simp [lenOf] at hsl;subst hsl
    simp only [copyCells] at hcs
    split at hcs
    case isFalse=>cases hcs
    rename_i he1
    cases hcs
    rw [hxv.string_left]
    refine ⟨_,by simp [Builtin.lenOf], ?_,zLr.refl_of fun y hy=>?_,fun y hy=>?_⟩
    ·simp only [Builtin.firstCells,Sem.run_pure]
     congr 1
     apply Array.ext'
     simp only [Array.toList_map,ByteArray.data_extract,Array.toList_extract]
     simp [List.extract]
    ·obtain ⟨b,_,rfl⟩:=List.mem_map.1 hy;exact .atom rfl
    ·obtain ⟨b,_,rfl⟩:=List.mem_map.1 hy;rfl
  | _=>rw [hxx] at hsl;simp [lenOf] at hsl
 cases hcs:copyCells H esz (min sl dl) (ρ x) with
 | none=>rw [hcs] at hx;cases hx
 | some cs=>
 rw [hcs] at hx
 cases base with
 | some a=>
   simp only at hx
   obtain ⟨cs',r1,r2,r3,r4⟩:=read cs hcs
   rw [hdv] at hd
   obtain ⟨hsp,L,hL,hc⟩:=hd.slice_left
   by_cases hn0:min sl dl=0
   ·rw [if_pos hn0] at hx
    cases hx
    have hcs0:cs=[]:=by
     rw [hn0] at hcs
     unfold copyCells at hcs
     split at hcs
     ·split at hcs
      ·cases hcs;rfl
      ·cases hcs
     ·simp only [Nat.zero_mul] at hcs
      unfold AM.loadCells at hcs
      split at hcs
      ·split at hcs
       ·simp at hcs;exact hcs
       ·cases hcs
      ·cases hcs
     ·split at hcs
      ·simp at hcs;exact hcs
      ·cases hcs
     ·cases hcs
    subst hcs0
    have hcs'0:cs'=[]:=by have:=r3.1;simpa using this.symm
    subst hcs'0
    have hd':∃b' c',ρ' d=.slice (some b') dl c':=by
     rcases hc with ⟨_,h⟩ | ⟨_,_,_,_,_,h⟩ | ⟨_,_,h0,h⟩
     ·exact ⟨_,_,h⟩
     ·exact ⟨_,_,h⟩
     ·rw [h0];exact ⟨_,_,h⟩
    obtain ⟨b',c',hd'⟩:=hd'
    refine ⟨w,.int .i64 0, ?_,.atom rfl,hinv,Stp.refl _ _,rfl⟩
    rw [hd']
    have hmin:Nat.min sl dl=0:=hn0
    rw [hn0] at r2
    simp [Builtin.copy_,hat,run_underlying hu,r1,run_size hes,hmin,r2,storeCells,goInt]
   ·rw [if_neg hn0] at hx
    simp only [Option.map_eq_some_iff,Prod.mk.injEq] at hx
    obtain ⟨H2,hst,rfl,rfl⟩:=hx
    obtain ⟨w',q1,q2,q3,q4⟩:=hinv.store (P:=P) hL hst r3 r4
    have hd':∃c',ρ' d=.slice (some ⟨L.blk,L.base+a.off,none⟩) dl c':=by
     rcases hc with ⟨_,h⟩ | ⟨_,_,_,_,_,h⟩ | ⟨_,_,h0,h⟩
     ·exact ⟨_,h⟩
     ·exact ⟨_,h⟩
     ·rw [h0] at hn0;simp at hn0
    obtain ⟨c',hd'⟩:=hd'
    refine ⟨w',.int .i64 (min sl dl:Nat), ?_,.atom rfl,q2,q3,q4⟩
    rw [hd']
    have hmin:Nat.min sl dl=min sl dl:=rfl
    simp [Builtin.copy_,hat,run_underlying hu,r1,run_size hes,hmin,r2,q1,goInt]
 | none=>
   simp only at hx
   split at hx
   case isFalse=>cases hx
   rename_i hdl
   cases hx
   obtain ⟨cs',r1,r2,r3,r4⟩:=read cs hcs
   rw [hdv] at hd
   obtain ⟨h1,h2,h3⟩:=hd.nilslice_left
   refine ⟨w,.int .i64 0, ?_,.atom rfl,hinv,Stp.refl _ _,rfl⟩
   rw [h3]
   subst hdl
   have hmin:Nat.min sl 0=0:=Nat.min_zero sl
   rw [Nat.min_zero] at r2
   simp [Builtin.copy_,hat,run_underlying hu,r1,run_size hes,hmin,r2,goInt]
theorem clear_sound (hinv:Inv Pg W lim σ H w) {dt e ty:TypeId} {ats:Array TypeId} (hat:ats[0]? = some dt) (hu:P.underlying dt=some (.slice e)) {z:List Value} (hz:zeroOf P e=some z) {x:Operand} (hxv:zVr σ (ρ x) (ρ' x))
  (hx:aOp lim dest (.clear z x) ρ H=some (v,H')):∃w',(Builtin.clear_ ats ty #[ρ' x]).run P w=.ok (.tuple #[]) w'∧v=.tuple #[]∧Inv Pg W lim σ H' w'∧Stp W w w'∧H'.length=H.length:=by
 simp only [aOp] at hx
 split at hx
 case h_2=>cases hx
 rename_i a n c hxx
 obtain ⟨i,zv,hi,hzv,rfl,hatom⟩:=zero_info hz
 rw [hxx] at hxv
 obtain ⟨hsp,L,hL,hc⟩:=hxv.slice_left
 have zrun:(zeroValue e).run P w=.ok zv w:=by simp [zeroValue,typeInfo,hi,hzv]
 by_cases h0:n=0
 ·rw [if_pos h0] at hx
  cases hx
  subst h0
  have hd':∃b' c',ρ' x=.slice (some b') 0 c':=by
   rcases hc with ⟨_,h⟩ | ⟨_,_,_,_,_,h⟩ | ⟨_,_,h0,h⟩
   ·exact ⟨_,_,h⟩
   ·exact ⟨_,_,h⟩
   ·exact ⟨_,_,h⟩
  obtain ⟨b',c',hd'⟩:=hd'
  refine ⟨w, ?_,rfl,hinv,Stp.refl _ _,rfl⟩
  rw [hd']
  simp [Builtin.clear_,hat,run_underlying hu]
 ·rw [if_neg h0] at hx
  simp only [Option.map_eq_some_iff,Prod.mk.injEq] at hx
  obtain ⟨H2,hst,rfl,rfl⟩:=hx
  have hmem:∀y∈(List.range (n*zv.cells.toList.length)).map (fun j=>zv.cells.toList.getD (j % zv.cells.toList.length) undef),atom y=true∧y.oneCell'=true:=by
   intro y hy
   obtain ⟨j,hj,rfl⟩:=List.mem_map.1 hy
   have hlt:=List.mem_range.1 hj
   have hp:0<zv.cells.toList.length:=by
    rcases Nat.eq_zero_or_pos zv.cells.toList.length with h | h
    ·rw [h] at hlt;omega
    ·exact h
   have hm:=Nat.mod_lt j hp
   rw [List.getD_eq_getElem?_getD,List.getElem?_eq_getElem hm]
   exact hatom _ (List.getElem_mem hm)
  obtain ⟨w',q1,q2,q3,q4⟩:=hinv.store (P:=P) hL hst (zLr.refl_of fun y hy=>.atom (hmem y hy).1) fun y hy=>(hmem y hy).2
  have hd':∃c',ρ' x=.slice (some ⟨L.blk,L.base+a.off,none⟩) n c':=by
   rcases hc with ⟨_,h⟩ | ⟨_,_,_,_,_,h⟩ | ⟨_,_,h1,h⟩
   ·exact ⟨_,h⟩
   ·exact ⟨_,h⟩
   ·exact absurd h1 h0
  obtain ⟨c',hd'⟩:=hd'
  refine ⟨w', ?_,rfl,q2,q3,q4⟩
  have hl:(Builtin.zeroCells zv.cells n).toList=(List.range (n*zv.cells.toList.length)).map (fun j=>zv.cells.toList.getD (j % zv.cells.toList.length) undef):=by
   unfold Builtin.zeroCells
   rw [Array.toList_map,Array.toList_range,Array.length_toList]
   refine List.map_congr_left fun j hj=>?_
   have hlt:=List.mem_range.1 hj
   have hp:0<zv.cells.size:=by
    rcases Nat.eq_zero_or_pos zv.cells.size with h | h
    ·rw [h] at hlt;omega
    ·exact h
   have hm:=Nat.mod_lt j hp
   rw [getElem!_pos zv.cells _ hm,List.getD_eq_getElem?_getD,Array.getElem?_toList,Array.getElem?_eq_getElem hm]
   rfl
  generalize (List.range (n*zv.cells.toList.length)).map (fun j=>zv.cells.toList.getD (j % zv.cells.toList.length) undef)=L0 at hl q1
  rw [hd']
  obtain ⟨k,rfl⟩:∃k,n=k+1:=⟨n-1,by omega⟩
  simp [Builtin.clear_,hat,run_underlying hu,zrun,hl,q1]
end
section
variable {P:Program} {pureF:FuncId→Bool} {Pg:Prg} {W:Nat→Prop} {lim:Nat} {σ:Sig} {H H':zH} {w:World} {dest:Option Nat} {ρ ρ':Operand→Value} {v:Value}
theorem zOb {α β:Type} {x:Option α} {f:α→Option β} {b:β} (h:(x >>= f)=some b):∃a,x=some a∧f a=some b:=by
 cases x with
 | none=>cases h
 | some a=>exact ⟨a,rfl,h⟩
theorem run_append_zeros (w:World) (st xt ty e:TypeId) (i:TypeInfo) (z:Value) {kd:IntKind} (ht:P.underlying st=some (.slice e)) (hx:P.underlying xt=some (.int kd)) (hi:P.info? e=some i) (hz:i.zero=some z)
  (hzs:z.cells.size=i.size) (hs0:i.size≠0) (k:IntKind) (l:Int) (h0:0<l) (hbytes:l*i.bytes≤140737488355328) (h62:l<2 ^ 62) :
  (Builtin.append_ #[st,xt] ty #[.slice none 0 0,.int k l]).run P w =
   .ok (.slice (some ⟨w.heap.size,0,none⟩) l.toNat (grownCap w l.toNat 0 e))
    (w.drew.alloc (.cells (madeCells z.cells (l.toNat*i.size)++Builtin.zeroCells z.cells (grownCap w l.toNat 0 e-l.toNat)) e)):=by
 have wl:IntKind.i64.wrap l=l:=by rw [IntKind.wrap_i64];omega
 obtain ⟨n,rfl⟩:∃n:Nat,l=n:=⟨l.toNat,by omega⟩
 have n1:¬(n:Int)<0:=by omega
 have hb':n*i.bytes≤140737488355328:=by rw [←Int.natCast_mul] at hbytes;omega
 have n2:¬(281474976710656<(n:Int)*i.bytes):=by omega
 have hn:¬(n=0):=by omega
 have h63':¬(9223372036854775807<(n:Int)):=by omega
 have h48':¬(281474976710656<Builtin.nextslicecap n 0*i.bytes):=by
  have:=growslice_fits (need:=n) (old:=0) (bytes:=i.bytes) (by omega) hb';omega
 have hns:¬(n*i.size=0):=by rw [Nat.mul_eq_zero];omega
 simp [Builtin.append_,run_underlying ht,run_underlying hx,asInt,asIntOf,sizeOf,typeInfo,zeroValue,hi,hz,wl,n1,n2,hn,h63',h48',hns,hs0,Question.forced,Builtin.firstCells,newRow,grownCap,madeCells,hzs,Builtin.zeroCells]
theorem growNil_sound (hinv:Inv Pg W lim σ H w) (hd:∀d,dest=some d→d<H.length∧σ d=none) {st xt ty e:TypeId} {kd:IntKind} (hu:P.underlying st=some (.slice e)) (hxt:P.underlying xt=some (.int kd))
  {esz bytes:Nat} (hes:zSz P e=some esz) (heb:bytesOfT P e=some bytes) {z:List Value} (hz:zeroOf P e=some z) (hzl:z.length=esz) (he0:esz≠0) {os ox:Operand}
  (hs:zVr σ (ρ os) (ρ' os)) (hxv:zVr σ (ρ ox) (ρ' ox)) (hx:aOp lim dest (.growNil esz bytes z os ox) ρ H=some (v,H')) {run:Result Next}
  (hrun:run=((Builtin.append_ #[st,xt] ty #[ρ' os,ρ' ox]).run P w).andThen fun v w'=>.ok (.value v) w'):zOs Pg W lim σ dest H w run v H':=by
 obtain ⟨i,zv,hi,hzv,rfl,hat⟩:=zero_info hz
 obtain ⟨i2,hi2,his⟩:=size_info hes
 rw [hi] at hi2;cases hi2
 obtain ⟨i3,hi3,hib⟩:=bytes_info heb
 rw [hi] at hi3;cases hi3
 subst his hib
 have hzs:zv.cells.size=i.size:=by simpa using hzl
 simp only [aOp] at hx
 split at hx
 case h_2=>cases hx
 rename_i kl l hsl hl
 split at hx
 case isFalse=>cases hx
 rename_i hb2
 obtain ⟨b1,b2,b3⟩:=hb2
 cases hp:place dest (.cells false ((List.range (l.toNat*i.size)).map fun j=>zv.cells.toList.getD (j % zv.cells.toList.length) undef)) H with
 | mk k K=>
 rw [hp] at hx
 cases hx
 rw [hsl] at hs;rw [hl] at hxv
 obtain ⟨_,_,hs'⟩:=hs.nilslice_left
 have hg:=run_append_zeros (P:=P) w st xt ty e i zv hu hxt hi hzv hzs he0 kl l b1 (by omega) b3
 have hge:=grownCap_ge w l.toNat 0 e
 have hzget:∀j,zVr σ (zv.cells.toList.getD (j % zv.cells.toList.length) undef) (zv.cells[j % zv.cells.size]!)∧(zv.cells[j % zv.cells.size]!).oneCell'=true:=fun j=>by
  have hj:j % zv.cells.size<zv.cells.size:=Nat.mod_lt _ (by omega)
  have e1:zv.cells.toList.getD (j % zv.cells.toList.length) undef=zv.cells[j % zv.cells.size]:=by
   rw [List.getD_eq_getElem?_getD,Array.length_toList,Array.getElem?_toList,Array.getElem?_eq_getElem hj];rfl
  have e2:zv.cells[j % zv.cells.size]! = zv.cells[j % zv.cells.size]:=by simp [hj]
  rw [e1,e2]
  have:=hat _ (Array.mem_toList_iff.2 (Array.getElem_mem hj))
  exact ⟨.atom this.1,this.2⟩
 have hsize:(madeCells zv.cells (l.toNat*i.size)++Builtin.zeroCells zv.cells (grownCap w l.toNat 0 e-l.toNat)).size=grownCap w l.toNat 0 e*i.size:=by
  rw [Array.size_append,size_zeroCells,size_madeCells,hzs,←Nat.add_mul];congr 1;omega
 refine zOs.made hinv hd hp (cs:=madeCells zv.cells (l.toNat*i.size)++Builtin.zeroCells zv.cells (grownCap w l.toNat 0 e-l.toNat)) (el:=e) (fun j y hj=>?_) ?_ hinv.drew (Stp.drew) (v':=.slice (some ⟨w.heap.size,0,none⟩) l.toNat (grownCap w l.toNat 0 e)) ?_ ?_
 ·rw [List.getElem?_map] at hj
  simp only [Option.map_eq_some_iff] at hj
  obtain ⟨j',hj',rfl⟩:=hj
  have hjn:j<l.toNat*i.size:=by simpa using (List.getElem?_eq_some_iff.1 hj').1
  rw [List.getElem?_range hjn] at hj'
  cases hj'
  refine ⟨zv.cells[j % zv.cells.size]!, ?_,(hzget j).1,(hzget j).2⟩
  rw [Array.getElem?_append_left (by rw [size_madeCells];exact hjn)]
  simp [madeCells,hjn]
 ·rw [hsize];simp only [List.length_map,List.length_range];exact Nat.mul_le_mul_right _ hge
 ·rw [hrun,hs',hxv.int_left,hg];rfl
 ·have hrm:0+grownCap w l.toNat 0 e*i.size≤(madeCells zv.cells (l.toNat*i.size)++Builtin.zeroCells zv.cells (grownCap w l.toNat 0 e-l.toNat)).size:=by omega
  have:=zVr.lslice (σ:=σ.put k ⟨w.drew.heap.size,0,(madeCells zv.cells (l.toNat*i.size)++Builtin.zeroCells zv.cells (grownCap w l.toNat 0 e-l.toNat)).size⟩) (i:=k) (k:=0) (n:=l.toNat) (e:=i.size) (c:=grownCap w l.toNat 0 e) Sig.put_same hge hrm
  simpa using this
theorem builtin_sound {draw:Bool} {o:Oper} {c:Call} (hoc:o.op=.call c) {b:Builtin} (hb:c.callee=.builtin b) {ao:AOp} (htr:trOp P pureF draw o=some ao) (hinv:Inv Pg W lim σ H w)
  (hρ:∀x,zOo x=true→zVr σ (ρ x) (ρ' x)) (hd:∀d,dest=some d→d<H.length∧σ d=none) (hx:aOp lim dest ao ρ H=some (v,H')):zOs Pg W lim σ dest H w ((execOp ρ' o).run P w) v H':=by
 have hcb:=call_builtin (ρ':=ρ') o c b hoc hb
 unfold trOp at htr
 split at htr
 ·cases htr
 rename_i hok
 simp only [Bool.not_eq_true,Bool.not_eq_false'] at hok
 have hop:∀x∈c.args.toList,zVr σ (ρ x) (ρ' x):=fun x hx=>hρ x (okOps (by simpa using hok) (by
  rw [hoc];simp only [Op.operands,Call.operands,hb];simpa using hx))
 rw [hoc] at htr
 simp only [hb] at htr
 cases b<;>simp only at htr<;>try (cases htr;done)
 case append=>
  split at htr
  case h_2=>cases htr
  rename_i s x st xt e1 e2
  have hats:c.argTypes=#[st,xt]:=by apply Array.ext';simpa using e2
  have hs:=hop s (by simp [e1])
  have hxv:=hop x (by simp [e1])
  have runE:∀(ty:TypeId),(execOp ρ' o).run P w=((Builtin.append_ #[st,xt] o.type #[ρ' s,ρ' x]).run P w).andThen fun v w'=>.ok (.value v) w':=by
   intro _
   rw [hcb,args_two e1,hats]
   simp [builtin]
  split at htr
  ·rename_i e e' hu1 hu2
   obtain ⟨n,hn,htr⟩:=zOb htr
   obtain ⟨bb,hbb,htr⟩:=zOb htr
   obtain ⟨z,hz,htr⟩:=zOb htr
   split at htr
   case isFalse=>cases htr
   rename_i hzl
   cases htr
   simp only [aOp] at hx
   exact append_sound hinv hd (ty:=o.type) hu1 (str:=false) (by simpa using ⟨_,hu2⟩) hn hbb hz hzl hs hxv hx (runE 0)
  ·rename_i e hu1 hu2
   obtain ⟨n,hn,htr⟩:=zOb htr
   obtain ⟨bb,hbb,htr⟩:=zOb htr
   obtain ⟨z,hz,htr⟩:=zOb htr
   split at htr
   case isFalse=>cases htr
   rename_i hzl
   cases htr
   simp only [aOp] at hx
   exact append_sound hinv hd (ty:=o.type) hu1 (str:=true) (by simpa using ⟨hu2,hzl.2⟩) hn hbb hz hzl.1 hs hxv hx (runE 0)
  ·rename_i e kd hu1 hu2
   obtain ⟨n,hn,htr⟩:=zOb htr
   obtain ⟨bb,hbb,htr⟩:=zOb htr
   obtain ⟨z,hz,htr⟩:=zOb htr
   split at htr
   case isFalse=>cases htr
   rename_i hzl
   cases htr
   exact growNil_sound hinv hd hu1 hu2 hn hbb hz hzl.1 hzl.2 hs hxv hx (runE 0)
  ·cases htr
 case copy=>
  split at htr
  case h_2=>cases htr
  rename_i d x dt rest e1 e2
  split at htr
  case h_2=>cases htr
  rename_i e hu
  simp only [Option.map_eq_some_iff] at htr
  obtain ⟨n,hn,rfl⟩:=htr
  obtain ⟨w',v',q1,q2,q3,q4,q5⟩:=copy_sound (P:=P) (ty:=o.type) hinv (types_get e2) hu hn (hop d (by simp [e1])) (hop x (by simp [e1])) hx
  refine zOs.wrote hinv (nx:=.value v') ?_ rfl q2 q3 q4 q5
  rw [hcb,args_two e1]
  exact builtin_run _ _ _ _ _ _ rfl q1
 case clear=>
  split at htr
  case h_2=>cases htr
  rename_i x t rest e1 e2
  split at htr
  case h_2=>cases htr
  rename_i e hu
  simp only [Option.map_eq_some_iff] at htr
  obtain ⟨z,hz,rfl⟩:=htr
  obtain ⟨w',q1,rfl,q2,q3,q4⟩:=clear_sound (P:=P) (ty:=o.type) hinv (types_get e2) hu hz (hop x (by simp [e1])) hx
  refine zOs.wrote hinv (nx:=.value (.tuple #[])) ?_ rfl (.atom rfl) q2 q3 q4
  rw [hcb,args_one e1]
  exact builtin_run _ _ _ _ _ _ rfl q1
 case delete=>
  split at htr
  case h_2=>cases htr
  rename_i m k t rest e1 e2
  split at htr
  case h_2=>cases htr
  rename_i kt e hu
  simp only [Option.map_eq_some_iff] at htr
  obtain ⟨kk,hk,rfl⟩:=htr
  obtain ⟨w',q1,q2,q3,q4,rfl⟩:=delete_run (P:=P) (ty:=o.type) hinv hu hk (hop m (by simp [e1])) (hop k (by simp [e1])) hx (types_get e2)
  refine zOs.wrote hinv (nx:=.value (.tuple #[])) ?_ rfl (.atom rfl) q2 q3 q4
  rw [hcb,args_two e1]
  exact builtin_run _ _ _ _ _ _ rfl q1
 case cap=>
  split at htr
  case h_2=>cases htr
  rename_i x t e1 e2
  have hxv:=hop x (by simp [e1])
  have h0:c.argTypes[0]? = some t:=types_get e2
  split at htr
  ·rename_i e hu
   cases htr
   simp only [aOp] at hx
   split at hx
   case h_2=>cases hx
   rename_i a n cc hs
   split at hx
   case isFalse=>cases hx
   rename_i hc62
   cases hx
   rw [hs] at hxv
   have:∃a' n',ρ' x=.slice a' n' cc:=by
    cases a with
    | none=>obtain ⟨rfl,rfl,h⟩:=hxv.nilslice_left;exact ⟨_,_,h⟩
    | some a=>
      obtain ⟨_,L,_,⟨_,h⟩ | ⟨e',he',_,_,_,h⟩ | ⟨_,hc0,rfl,h⟩⟩:=hxv.slice_left
      ·exact ⟨_,_,h⟩
      ·exfalso;rw [he'] at hc62;unfold loose at hc62;omega
      ·rcases hc0 with rfl | ⟨e',rfl⟩
       ·exact ⟨_,_,h⟩
       ·exfalso;unfold loose at hc62;omega
   obtain ⟨a',n',h⟩:=this
   refine zOs.plain hinv (v':=.int .i64 cc) ?_ (.atom rfl)
   rw [hcb,args_one e1]
   refine builtin_run _ _ _ _ _ _ rfl ?_
   rw [h]
   simp [Builtin.cap_,h0,run_underlying hu,goInt]
  ·cases htr
 case len=>
  split at htr
  case h_2=>cases htr
  rename_i x t e1 e2
  have hxv:=hop x (by simp [e1])
  have h0:c.argTypes[0]? = some t:=types_get e2
  split at htr
  ·rename_i hu
   cases htr
   simp only [aOp] at hx
   split at hx
   case h_2=>cases hx
   rename_i s hs
   cases hx
   rw [hs] at hxv
   refine zOs.plain hinv (v':=.int .i64 s.size) ?_ (.atom rfl)
   rw [hcb,args_one e1]
   exact builtin_run _ _ _ _ _ _ rfl ((len_run h0).1 hu s hxv.string_left)
  ·rename_i e hu
   cases htr
   simp only [aOp] at hx
   split at hx
   case h_2=>cases hx
   rename_i a n cc hs
   cases hx
   rw [hs] at hxv
   have:∃a' c',ρ' x=.slice a' n c':=by
    cases a with
    | none=>obtain ⟨rfl,rfl,h⟩:=hxv.nilslice_left;exact ⟨_,_,h⟩
    | some a=>
      obtain ⟨_,L,_,⟨_,h⟩ | ⟨_,_,_,_,_,h⟩ | ⟨_,_,rfl,h⟩⟩:=hxv.slice_left
      ·exact ⟨_,_,h⟩
      ·exact ⟨_,_,h⟩
      ·exact ⟨_,_,h⟩
   obtain ⟨a',c',h⟩:=this
   refine zOs.plain hinv (v':=.int .i64 n) ?_ (.atom rfl)
   rw [hcb,args_one e1]
   exact builtin_run _ _ _ _ _ _ rfl ((len_run h0).2.1 ⟨e,hu⟩ _ _ _ h)
  ·rename_i k e hu
   cases htr
   simp only [aOp,Option.map_eq_some_iff,Prod.mk.injEq] at hx
   obtain ⟨es,hes,rfl,rfl⟩:=hx
   refine zOs.plain hinv (v':=.int .i64 es.length) ?_ (.atom rfl)
   rw [hcb,args_one e1]
   refine builtin_run _ _ _ _ _ _ rfl ?_
   rcases hinv.entries hxv hes with ⟨hm',rfl⟩ | ⟨r,L,ents,clock,hm0,hbb,hL,hm',hh,hlen,hrel⟩
   ·rw [hm'];simp [Builtin.len_,h0,run_underlying hu,goInt]
   ·rw [hm'];simp [Builtin.len_,h0,run_underlying hu,MapKept.run_getObj_map hh,goInt,hlen]
  ·rename_i n e hu
   cases htr
   simp only [aOp] at hx
   cases hx
   refine zOs.plain hinv (v':=.int .i64 n) ?_ (.atom rfl)
   rw [hcb,args_one e1]
   exact builtin_run _ _ _ _ _ _ rfl ((len_run h0).2.2 n e hu)
  ·cases htr
 case max=>
  cases htr
  simp only [aOp] at hx
  split at hx
  ·cases hx
  rename_i x r hxs
  simp only [Option.map_eq_some_iff,Prod.mk.injEq] at hx
  obtain ⟨z,hz,rfl,rfl⟩:=hx
  obtain ⟨z',h1,h2⟩:=minmaxAll_sound (P:=P) (w:=w) (σ:=σ) true (r.map ρ) (r.map ρ') (ρ x) (ρ' x) z (hop x (by simp [hxs])) (lrel_map_rho fun y hy=>hop y (by simp [hxs,hy])) hz
  refine zOs.plain hinv (v':=z') ?_ h2
  rw [hcb]
  refine builtin_run _ _ _ _ _ _ rfl ?_
  have:(c.args.map ρ').toList=ρ' x::r.map ρ':=by simp [hxs]
  unfold Builtin.max_
  rw [this]
  exact h1
 case min=>
  cases htr
  simp only [aOp] at hx
  split at hx
  ·cases hx
  rename_i x r hxs
  simp only [Option.map_eq_some_iff,Prod.mk.injEq] at hx
  obtain ⟨z,hz,rfl,rfl⟩:=hx
  obtain ⟨z',h1,h2⟩:=minmaxAll_sound (P:=P) (w:=w) (σ:=σ) false (r.map ρ) (r.map ρ') (ρ x) (ρ' x) z (hop x (by simp [hxs])) (lrel_map_rho fun y hy=>hop y (by simp [hxs,hy])) hz
  refine zOs.plain hinv (v':=z') ?_ h2
  rw [hcb]
  refine builtin_run _ _ _ _ _ _ rfl ?_
  have:(c.args.map ρ').toList=ρ' x::r.map ρ':=by simp [hxs]
  unfold Builtin.min_
  rw [this]
  exact h1
theorem aOp_sound {draw:Bool} {o:Oper} {ao:AOp} (htr:trOp P pureF draw o=some ao) (hinv:Inv Pg W lim σ H w) (hρ:∀x,zOo x=true→zVr σ (ρ x) (ρ' x)) (hd:∀d,dest=some d→d<H.length∧σ d=none)
  (hx:aOp lim dest ao ρ H=some (v,H')):zOs Pg W lim σ dest H w ((execOp ρ' o).run P w) v H':=by
 obtain ⟨dst,op,type,pos,after,guard⟩:=o
 by_cases hcall:∃c,op=.call c
 ·obtain ⟨c,rfl⟩:=hcall
  by_cases hb:∃b,c.callee=.builtin b
  ·obtain ⟨b,hb⟩:=hb
   exact builtin_sound (o:=⟨dst,.call c,type,pos,after,guard⟩) rfl hb htr hinv hρ hd hx
  ·unfold trOp at htr
   split at htr
   ·cases htr
   simp only at htr
   cases hc:c.callee with
   | builtin b=>exact absurd ⟨b,hc⟩ hb
   | value f=>rw [hc] at htr;simp at htr;subst htr;simp [aOp] at hx
   | invoke r m=>rw [hc] at htr;simp at htr
 unfold trOp at htr
 split at htr
 ·cases htr
 rename_i hok
 simp only [Bool.not_eq_true,Bool.not_eq_false'] at hok
 have hop:∀x∈op.operands,zVr σ (ρ x) (ρ' x):=fun x hx=>hρ x (okOps (o:=⟨dst,op,type,pos,after,guard⟩) (by simpa using hok) hx)
 cases op<;>(try simp only at htr)<;>try (cases htr;done)
 case call c=>exact absurd ⟨c,rfl⟩ hcall
 case move x=>
  cases htr;simp only [aOp] at hx;cases hx
  exact zOs.plain hinv (v':=ρ' x) rfl (hop x (by simp [Op.operands]))
 case assign x=>
  cases htr;simp only [aOp] at hx;cases hx
  exact zOs.plain hinv (v':=ρ' x) rfl (hop x (by simp [Op.operands]))
 case pick c a b=>
  cases htr;simp only [aOp] at hx
  have hc:=hop c (by simp [Op.operands])
  split at hx
  ·rename_i h;cases hx;rw [h] at hc
   exact zOs.plain hinv (v':=ρ' a) (by simp [execOp,hc.bool_left,asBool]) (hop a (by simp [Op.operands]))
  ·rename_i h;cases hx;rw [h] at hc
   exact zOs.plain hinv (v':=ρ' b) (by simp [execOp,hc.bool_left,asBool]) (hop b (by simp [Op.operands]))
  ·cases hx
 case alloc e=>
  simp only [Option.map_eq_some_iff] at htr
  obtain ⟨z,hz,rfl⟩:=htr
  exact alloc_sound hinv hd hz hx _ rfl
 case box e x=>
  cases htr
  exact box_sound hinv hd (hop x (by simp [Op.operands])) hx _ rfl
 case build t parts=>
  obtain ⟨z,hz,htr⟩:=zOb htr
  split at htr
  ·rename_i fs hu
   obtain ⟨ps,hps,htr⟩:=zOb htr
   split at htr
   case isFalse=>cases htr
   rename_i hall
   cases htr
   exact build_struct_sound hinv hu hz hps hall hρ hx _ rfl
  ·rename_i n e hu
   obtain ⟨s,hs,htr⟩:=zOb htr
   cases htr
   exact build_array_sound hinv hu hz hs (fun x hx=>hop x.2 (by simp only [Op.operands];simp;exact ⟨x.1,by simpa using hx⟩)) hx _ rfl
  ·cases htr
 case buildSlice t len parts=>
  split at htr
  ·rename_i e hu
   obtain ⟨s,hs,htr⟩:=zOb htr
   obtain ⟨z,hz,htr⟩:=zOb htr
   split at htr
   ·cases htr
   rename_i hcond
   cases htr
   exact buildSlice_sound hinv hd hu hz hs (Decidable.byContradiction fun h=>hcond (.inl h)) (fun h=>hcond (.inr (.inl h))) (Nat.le_of_not_lt fun h=>hcond (.inr (.inr h)))
    (fun x hx=>hop x.2 (by simp only [Op.operands];simp;exact ⟨x.1,by simpa using hx⟩)) hx _ rfl
  ·cases htr
 case load t a=>
  obtain ⟨ag,hag,htr⟩:=zOb htr
  have ha:=hop a (by simp [Op.operands])
  cases ag with
  | true=>
    simp only [if_true,Option.map_eq_some_iff] at htr
    obtain ⟨n,hn,rfl⟩:=htr
    simp only [aOp] at hx
    split at hx
    case h_2=>cases hx
    rename_i p hp
    simp only [Option.map_eq_some_iff,Prod.mk.injEq] at hx
    obtain ⟨c,hc,rfl,rfl⟩:=hx
    rw [hp] at ha
    obtain ⟨L,hL,hsp,h2⟩:=ha.ptr_left
    obtain ⟨v',h3,h4⟩:=loadN_sound (P:=P) hinv hag hn hL hc
    refine zOs.plain hinv (v':=v') ?_ h4
    simp only [execOp]
    refine zRv P w _ ?_
    simp [Instr.loadAt,Instr.sureAddr,h2,h3]
  | false=>
    simp only [Bool.false_eq_true,if_false,Option.some.injEq] at htr
    subst htr
    simp only [aOp] at hx
    split at hx
    case h_2=>cases hx
    rename_i p hp
    simp only [Option.map_eq_some_iff,Prod.mk.injEq] at hx
    obtain ⟨c,hc,rfl,rfl⟩:=hx
    rw [hp] at ha
    obtain ⟨L,hL,hsp,h2⟩:=ha.ptr_left
    obtain ⟨v',h3,h4⟩:=load1_sound (P:=P) hinv hag hL hc
    refine zOs.plain hinv (v':=v') ?_ h4
    simp only [execOp]
    refine zRv P w _ ?_
    simp [Instr.loadAt,Instr.sureAddr,h2,h3]
 case store t a x=>
  simp only [Option.map_eq_some_iff] at htr
  obtain ⟨n,hn,rfl⟩:=htr
  have ha:=hop a (by simp [Op.operands])
  have hxv:=hop x (by simp [Op.operands])
  simp only [aOp] at hx
  split at hx
  case h_2=>cases hx
  rename_i p hp
  split at hx
  case isFalse=>cases hx
  rename_i hcond
  simp only [Option.map_eq_some_iff,Prod.mk.injEq] at hx
  obtain ⟨H2,hst,rfl,rfl⟩:=hx
  rw [hp] at ha
  obtain ⟨L,hL,hsp,h2⟩:=ha.ptr_left
  obtain ⟨w',q1,q2,q3,q4⟩:=hinv.store (P:=P) hL hst hxv.cells (hxv.cells_one hcond.2)
  refine zOs.wrote hinv (nx:=.skip) ?_ rfl (.atom rfl) q2 q3 q4
  simp only [execOp]
  refine run_unit P w _ ?_
  have hsz:(ρ' x).cells.size=n:=by have:=hxv.cells.1;simp at this;rw [←this];exact hcond.1
  simp [Instr.storeAt,Instr.sureAddr,h2,storeVar,run_size hn,hsz,q1]
 case nilCheck x=>
  cases htr
  have hxv:=hop x (by simp [Op.operands])
  simp only [aOp] at hx
  split at hx
  ·rename_i p hp
   cases hx
   rw [hp] at hxv
   obtain ⟨L,hL,hsp,h2⟩:=hxv.ptr_left
   exact zOs.plain hinv (v':=ρ' x) (by simp [execOp,h2]) hxv
  ·rename_i f a b hp
   cases hx
   rw [hp] at hxv
   obtain ⟨c,d,h2,_,_⟩:=hxv.func_left
   exact zOs.plain hinv (v':=ρ' x) (by simp [execOp,h2]) hxv
  ·cases hx
 case binOp op t x y yt=>
  have hxv:=hop x (by simp [Op.operands])
  have hyv:=hop y (by simp [Op.operands])
  have bin:∀{r},aOp lim dest (.bin op x y) ρ H=some (v,r)→zOs Pg W lim σ dest H w ((execOp ρ' ⟨dst,.binOp op t x y yt,type,pos,after,guard⟩).run P w) v r:=by
   intro r hx
   simp only [aOp,Option.map_eq_some_iff,Prod.mk.injEq] at hx
   obtain ⟨c,hc,rfl,rfl⟩:=hx
   have heq:ρ' x=ρ x∧ρ' y=ρ y∧zVr σ c c:=by
    have hc2:=hc
    unfold zB at hc2
    split at hc2
    ·rename_i k a k' b e1 e2
     rw [e1] at hxv;rw [e2] at hyv
     refine ⟨by rw [hxv.int_left,e1],by rw [hyv.int_left,e2], ?_⟩
     have:atom c=true:=by
      split at hc2
      ·split at hc2<;>cases hc2<;>rfl
      ·split at hc2<;>cases hc2<;>rfl
      ·split at hc2
       ·cases op<;>simp at hc2<;>first | (subst hc2;rfl) | (obtain ⟨_,rfl⟩:=hc2;rfl)
       ·cases hc2
     exact .atom this
    ·rename_i a b e1 e2
     rw [e1] at hxv;rw [e2] at hyv
     refine ⟨by rw [hxv.string_left,e1],by rw [hyv.string_left,e2], ?_⟩
     have:atom c=true:=by
      cases op<;>simp at hc2<;>first | (subst hc2;rfl) | (obtain ⟨_,rfl⟩:=hc2;rfl)
     exact .atom this
    ·cases hc2
   refine zOs.plain hinv (v':=c) ?_ heq.2.2
   simp only [execOp]
   refine zRv P w _ ?_
   rw [heq.1,heq.2.1]
   exact aBin_sound op t x y hc
  have eqc:∀{neg:Bool} {k:EqKind} {r},op=(if neg then .neq else .eql)→eqKind P t=some k→aOp lim dest (.eqv neg k x y) ρ H=some (v,r)→
    zOs Pg W lim σ dest H w ((execOp ρ' ⟨dst,.binOp op t x y yt,type,pos,after,guard⟩).run P w) v r:=by
   intro neg k r hop' hk hx
   simp only [aOp] at hx
   split at hx
   case h_2=>cases hx
   rename_i b hb
   cases hx
   refine zOs.plain hinv (v':=.bool (if neg then !b else b)) ?_ (.atom rfl)
   simp only [execOp,hop']
   exact zRv P w _ (aEq_sound w neg hk x y hxv hyv hb)
  have eqi:∀{neg:Bool} {m r},op=(if neg then .neq else .eql)→P.underlying t=some (.interface m)→y=.const .nilIface→aOp lim dest (.eqv neg .iface x y) ρ H=some (v,r)→
    zOs Pg W lim σ dest H w ((execOp ρ' ⟨dst,.binOp op t x y yt,type,pos,after,guard⟩).run P w) v r:=by
   intro neg m r hop' hu hy hx
   simp only [aOp] at hx
   split at hx
   case h_2=>cases hx
   rename_i b hb
   cases hx
   refine zOs.plain hinv (v':=.bool (if neg then !b else b)) ?_ (.atom rfl)
   simp only [execOp,hop']
   subst hy
   exact zRv P w _ (aEq_iface w neg hu x .nilIface hxv hyv hb)
  split at htr
  ·cases htr;exact bin hx
  ·cases htr;exact bin hx
  ·rename_i m hu
   split at htr
   ·split at htr
    ·cases htr;exact eqi (neg:=false) rfl hu rfl hx
    ·cases htr;exact eqi (neg:=true) rfl hu rfl hx
    ·cases htr
   ·cases htr
  ·split at htr
   ·simp only [Option.map_eq_some_iff] at htr
    obtain ⟨k,hk,rfl⟩:=htr
    exact eqc (neg:=false) rfl hk hx
   ·simp only [Option.map_eq_some_iff] at htr
    obtain ⟨k,hk,rfl⟩:=htr
    exact eqc (neg:=true) rfl hk hx
   ·cases htr
 case unOp op t x=>
  cases htr
  have hxv:=hop x (by simp [Op.operands])
  simp only [aOp,Option.map_eq_some_iff,Prod.mk.injEq] at hx
  obtain ⟨c,hc,rfl,rfl⟩:=hx
  have heq:ρ' x=ρ x∧zVr σ c c:=by
   have hc2:=hc
   unfold aUn at hc2
   split at hc2
   ·rename_i b e1;rw [e1] at hxv;cases hc2;exact ⟨by rw [hxv.bool_left,e1],.atom rfl⟩
   ·rename_i k n e1;rw [e1] at hxv;cases hc2;exact ⟨by rw [hxv.int_left,e1],.atom rfl⟩
   ·rename_i k n e1;rw [e1] at hxv;cases hc2;exact ⟨by rw [hxv.int_left,e1],.atom rfl⟩
   ·cases hc2
  refine zOs.plain hinv (v':=c) ?_ heq.2
  simp only [execOp]
  refine zRv P w _ ?_
  rw [heq.1]
  exact aUn_sound op hc
 case convert s d x=>
  have hxv:=hop x (by simp [Op.operands])
  split at htr
  ·rename_i k' k hs hd'
   cases htr
   simp only [aOp] at hx
   split at hx
   case h_2=>cases hx
   rename_i q n hq
   cases hx
   rw [hq] at hxv
   refine zOs.plain hinv (v':=.int k (k.wrap n)) ?_ (.atom rfl)
   simp only [execOp]
   refine zRv P w _ ?_
   rw [hxv.int_left]
   simp [convert,run_underlying hs,run_underlying hd',Conv.intToInt]
  ·rename_i hs hd'
   cases htr
   simp only [aOp] at hx
   split at hx
   case h_2=>cases hx
   rename_i q hq
   cases hx
   rw [hq] at hxv
   refine zOs.plain hinv (v':=.string q) ?_ (.atom rfl)
   simp only [execOp]
   refine zRv P w _ ?_
   rw [hxv.string_left]
   simp [convert,run_underlying hs,run_underlying hd']
  rotate_left
  ·rename_i e e' hs hd'
   split at htr
   case h_2=>cases htr
   rename_i he
   split at htr
   case isFalse=>cases htr
   rename_i hsd
   cases htr
   subst hsd
   have he':e'=e:=by rw [hs] at hd';cases hd';rfl
   subst he'
   exact rowMark_sound (o:=⟨dst,.convert s s x,type,pos,after,guard⟩) hinv hs he hxv hx
  rotate_right
  ·rename_i e hs hd'
   split at htr
   ·rename_i he
    cases htr
    obtain ⟨v',q1,q2,rfl⟩:=b2s_sound (P:=P) hinv hs he hd' hxv hx
    refine zOs.plain hinv (v':=v') ?_ q2
    simp only [execOp]
    exact zRv P w _ q1
   ·cases htr
  ·cases htr
 case makeFunc fn first captured=>
  cases fn<;>simp only at htr<;>try (cases htr;done)
  rename_i f
  cases htr
  simp only [aOp] at hx
  cases hx
  refine zOs.plain hinv (v':=.func (.func f) (first.map ρ') (captured.map ρ')) rfl ?_
  have key:∀(l:Array Operand),(∀x∈l,zVr σ (ρ x) (ρ' x))→∀i (h:i<((l.toList.map ρ).toArray).size) (h':i<(l.map ρ').size),zVr σ ((l.toList.map ρ).toArray)[i] (l.map ρ')[i]:=fun l hl i h h'=>by
   simp only [List.getElem_toArray,List.getElem_map,Array.getElem_map,Array.getElem_toList]
   exact hl _ (Array.getElem_mem _)
  exact .func (by simp) (by simp) (key first fun x hx=>hop x (by simp [Op.operands,hx])) (key captured fun x hx=>hop x (by simp [Op.operands,hx]))
 case makeMap t r=>
  split at htr
  ·rename_i kt e hu
   cases htr
   simp only [aOp] at hx
   split at hx
   case h_2=>cases hx
   rename_i hr
   cases hp:place dest (.map []) H with
   | mk k K=>
   rw [hp] at hx
   cases hx
   obtain ⟨i1,i2⟩:=hinv.allocMap hp hd
   obtain ⟨g1,g2,g3,g4,g5,g6,g7⟩:=place_get hp fun d e=>(hd d e).1
   refine ⟨.value (.map (some w.heap.size)),_,_,_, ?_,rfl,zVr.map Sig.put_same,i1,Stp.alloc hinv.fresh _,Sig.le_put i2,fun j hj=>?_,g3,fun hdn=>?_⟩
   ·simp only [execOp]
    refine zRv P w _ ?_
    cases r with
    | none=>simp [Instr.makeMap]
    | some x=>
      have hxv:=hop x (by simp [Op.operands])
      cases hxx:ρ x<;>simp [hxx] at hr
      rw [hxx] at hxv
      simp [Instr.makeMap,hxv.int_left,run_underlying hu,asInt,asIntOf]
   ·by_cases e:j=k
    ·subst e
     cases dest with
     | none=>exact .inr ⟨rfl,by rw [g5 rfl];exact Nat.le_refl _⟩
     | some d=>exact .inl (by rw [(g6 d rfl).1])
    ·simp [Sig.put,e] at hj
   ·cases dest with
    | none=>exact absurd rfl hdn
    | some d=>exact (g6 d rfl).2
  ·cases htr
 case makeInterface t x=>cases htr;simp [aOp] at hx
 case panic x=>cases htr;simp [aOp] at hx
 case makeSlice t l c=>
  split at htr
  ·rename_i e hu
   obtain ⟨s,hs,htr⟩:=zOb htr
   obtain ⟨bb,hb,htr⟩:=zOb htr
   obtain ⟨z,hz,htr⟩:=zOb htr
   split at htr
   ·cases htr
   rename_i hcond
   cases htr
   have hzs:z.length=s:=Decidable.byContradiction fun h=>hcond (.inl h)
   have hs0:s≠0:=fun h=>hcond (.inr h)
   obtain ⟨i,zv,hi,hzv,rfl,hat⟩:=zero_info hz
   obtain ⟨i2,hi2,his⟩:=size_info hs
   rw [hi] at hi2;cases hi2
   obtain ⟨i3,hi3,hib⟩:=bytes_info hb
   rw [hi] at hi3;cases hi3
   subst his hib
   have hlv:=hop l (by simp [Op.operands])
   have hcv:=hop c (by simp [Op.operands])
   simp only [aOp] at hx
   split at hx
   case h_2=>cases hx
   rename_i kl ln kc cn hl hc
   split at hx
   case isFalse=>cases hx
   rename_i hb2
   obtain ⟨b1,b2,b3,b4⟩:=hb2
   cases hp:place dest (.cells false ((List.range (cn.toNat*i.size)).map fun j=>zv.cells.toList.getD (j % zv.cells.toList.length) undef)) H with
   | mk k K=>
   rw [hp] at hx
   cases hx
   rw [hl] at hlv;rw [hc] at hcv
   have hzget:∀j,zVr σ (zv.cells.toList.getD (j % zv.cells.toList.length) undef) (zv.cells[j % zv.cells.size]!)∧(zv.cells[j % zv.cells.size]!).oneCell'=true:=fun j=>by
    have hj:j % zv.cells.size<zv.cells.size:=Nat.mod_lt _ (by simp at hzs;omega)
    have e1:zv.cells.toList.getD (j % zv.cells.toList.length) undef=zv.cells[j % zv.cells.size]:=by
     rw [List.getD_eq_getElem?_getD,Array.length_toList,Array.getElem?_toList,Array.getElem?_eq_getElem hj];rfl
    have e2:zv.cells[j % zv.cells.size]! = zv.cells[j % zv.cells.size]:=by simp [hj]
    rw [e1,e2]
    have:=hat _ (Array.mem_toList_iff.2 (Array.getElem_mem hj))
    exact ⟨.atom this.1,this.2⟩
   refine zOs.made hinv hd hp (cs:=madeCells zv.cells (cn.toNat*i.size)) (el:=e) (fun j y hj=>?_) (by simp [size_madeCells]) hinv (Stp.refl _ _) (v':=.slice (some ⟨w.heap.size,0,none⟩) ln.toNat cn.toNat) ?_ ?_
   ·rw [List.getElem?_map] at hj
    simp only [Option.map_eq_some_iff] at hj
    obtain ⟨j',hj',rfl⟩:=hj
    have hjn:j<cn.toNat*i.size:=by simpa using (List.getElem?_eq_some_iff.1 hj').1
    rw [List.getElem?_range hjn] at hj'
    cases hj'
    exact ⟨zv.cells[j % zv.cells.size]!,by simp [madeCells,hjn],(hzget j).1,(hzget j).2⟩
   ·simp only [execOp]
    refine zRv P w _ ?_
    rw [hlv.int_left,hcv.int_left]
    exact run_make w t e i zv hu hi hzv kl kc ln cn b1 b2 (by rw [Int.mul_comm];omega) (by omega)
   ·have h62:cn.toNat<2 ^ 62:=by omega
    simpa using zVr.slice (σ:=σ.put k ⟨w.heap.size,0,(madeCells zv.cells (cn.toNat*i.size)).size⟩) (i:=k) (k:=0) (n:=ln.toNat) Sig.put_same h62
  ·cases htr
 case slice t x lo hi mx=>
  have hxv:=hop x (by simp [Op.operands])
  have hbs:∀y∈lo.toList++hi.toList++mx.toList,zVr σ (ρ y) (ρ' y):=fun y hy=>hop y (by
   simp only [Op.operands];simp at hy⊢;rcases hy with h | h | h<;>simp [h])
  split at htr
  ·rename_i e hu
   obtain ⟨s,hs,htr⟩:=zOb htr
   split at htr
   ·cases htr
   cases htr
   simp only [aOp,Option.map_eq_some_iff,Prod.mk.injEq] at hx
   obtain ⟨c,hc,rfl,rfl⟩:=hx
   obtain ⟨v',q1,q2⟩:=sliceS_sound (P:=P) (w:=w) hu hs hxv hbs hc
   refine zOs.plain hinv (v':=v') ?_ q2
   simp only [execOp]
   exact zRv P w _ q1
  ·rename_i n e hu
   obtain ⟨s,hs,htr⟩:=zOb htr
   split at htr
   ·cases htr
   cases htr
   simp only [aOp] at hx
   split at hx
   case h_2=>cases hx
   rename_i a ha
   split at hx
   case h_2=>cases hx
   rename_i l h' m hb
   split at hx
   case isFalse=>cases hx
   rename_i h62
   cases hx
   rw [ha] at hxv
   obtain ⟨L,hL,hsp,h2⟩:=hxv.ptr_left
   obtain ⟨m',r1,r2,r3,r4,r5,r6,r7⟩:=bounds_sound (P:=P) (w:=w) hb hbs (Nat.le_refl _) false
   have hm:m'=m:=by
    by_cases e:mx=none
    ·rw [(r2 e).1,(r2 e).2]
    ·exact r3 e
   subst hm
   refine zOs.plain hinv (v':=.slice (some (if m'=l then ⟨L.blk,L.base+a.off,none⟩ else (⟨L.blk,L.base+a.off,none⟩:Addr).add (l*s))) (h'-l) (m'-l)) ?_ ?_
   ·simp only [execOp]
    refine zRv P w _ ?_
    rw [h2]
    simp [Instr.sliceAt,run_underlying hu,Instr.sureAddr,r1,run_size hs]
   ·split
    ·exact zVr.slice' hsp hL (by omega)
    ·rw [add_off a _ hsp,add_off _ _ rfl]
     have:=zVr.slice (σ:=σ) (i:=a.block) (k:=a.off+l*s) (n:=h'-l) (c:=m'-l) hL (by omega)
     rw [←Nat.add_assoc] at this
     exact this
  ·rename_i hu
   split at htr
   ·cases htr
   rename_i hmx
   cases htr
   have hmx':mx=none:=by cases mx<;>simp_all
   subst hmx'
   simp only [aOp] at hx
   split at hx
   case h_2=>cases hx
   rename_i q hq
   split at hx
   case h_2=>cases hx
   rename_i l h' m hb
   cases hx
   rw [hq] at hxv
   obtain ⟨m',r1,r2,r3,r4,r5,r6,r7⟩:=bounds_sound (P:=P) (w:=w) hb hbs (Nat.le_refl _) false
   refine zOs.plain hinv (v':=.string (q.extract l h')) ?_ (.atom rfl)
   simp only [execOp]
   refine zRv P w _ ?_
   rw [hxv.string_left]
   simp only [Option.map_none] at r1
   simp [Instr.sliceAt,Instr.slice,run_underlying hu,r1]
  ·cases htr
 case fieldAddr s x f=>
  have hxv:=hop x (by simp [Op.operands])
  split at htr
  ·rename_i fs hu
   obtain ⟨fd,hf,htr⟩:=zOb htr
   obtain ⟨n,hn,htr⟩:=zOb htr
   split at htr
   ·cases htr
   rename_i h0
   cases htr
   simp only [aOp] at hx
   split at hx
   case h_2=>cases hx
   rename_i p hp
   cases hx
   rw [hp] at hxv
   obtain ⟨L,hL,hsp,h2⟩:=hxv.ptr_left
   refine zOs.plain hinv ?_ (zVr.ptr_add hL hsp fd.offset)
   simp only [execOp]
   refine zRv P w _ ?_
   rw [h2]
   exact run_fieldAt hu hf hn h0 _
  ·cases htr
 case field s x f=>
  have hxv:=hop x (by simp [Op.operands])
  split at htr
  ·rename_i fs hu
   obtain ⟨fd,hf,htr⟩:=zOb htr
   obtain ⟨n,hn,htr⟩:=zOb htr
   obtain ⟨ag,hag,htr⟩:=zOb htr
   cases ag with
   | true=>
     simp only [if_true] at htr
     cases htr
     simp only [aOp] at hx
     split at hx
     case h_2=>cases hx
     rename_i cs hcs
     cases hx
     rw [hcs] at hxv
     obtain ⟨ys,h2,h3,h4⟩:=hxv.agg_left
     refine zOs.plain hinv (v':=.agg (ys.extract fd.offset (fd.offset+n))) ?_ (zVr.agg_iff.2 ⟨?_, ?_⟩)
     ·simp only [execOp]
      refine zRv P w _ ?_
      rw [h2]
      simp [Instr.field,run_underlying hu,hf,asAgg,run_partN hag hn]
     ·rw [extract_toList];simpa using (h3.drop fd.offset).take n
     ·rw [extract_toList];exact fun y hy=>h4 y (List.mem_of_mem_drop (List.mem_of_mem_take hy))
   | false=>
     simp only [Bool.false_eq_true,if_false] at htr
     cases htr
     simp only [aOp] at hx
     split at hx
     case h_2=>cases hx
     rename_i cs hcs
     simp only [Option.map_eq_some_iff,Prod.mk.injEq] at hx
     obtain ⟨c,hc,rfl,rfl⟩:=hx
     rw [hcs] at hxv
     obtain ⟨ys,h2,h3,h4⟩:=hxv.agg_left
     obtain ⟨y,h5,h6⟩:=h3.get hc
     refine zOs.plain hinv (v':=y) ?_ h6
     simp only [execOp]
     refine zRv P w _ ?_
     rw [h2]
     simp [Instr.field,run_underlying hu,hf,asAgg,run_part1 hag (by simpa using h5)]
  ·cases htr
 case indexAddr t x ix=>
  have hxv:=hop x (by simp [Op.operands])
  have hiv:=hop ix (by simp [Op.operands])
  split at htr
  ·rename_i e hu
   obtain ⟨s,hs,htr⟩:=zOb htr
   cases htr
   simp only [aOp] at hx
   split at hx
   case h_2=>cases hx
   rename_i p len cap k n hp hi
   split at hx
   case isFalse=>cases hx
   rename_i hn
   cases hx
   rw [hp] at hxv;rw [hi] at hiv
   obtain ⟨hsp,L,hL,hc⟩:=hxv.slice_left
   have hxc:∃c',ρ' x=.slice (some ⟨L.blk,L.base+p.off,none⟩) len c':=by
    rcases hc with ⟨_,h⟩ | ⟨_,_,_,_,_,h⟩ | ⟨_,_,h0,h⟩
    ·exact ⟨_,h⟩
    ·exact ⟨_,h⟩
    ·rw [h0] at hn;simp at hn;omega
   obtain ⟨c',h2⟩:=hxc
   refine zOs.plain hinv ?_ (zVr.ptr_add hL hsp (n.toNat*s))
   simp only [execOp]
   refine zRv P w _ ?_
   rw [h2,hiv.int_left]
   exact run_indexAt_slice' hu hs _ len c' k n hn
  ·rename_i len e hu
   obtain ⟨s,hs,htr⟩:=zOb htr
   cases htr
   simp only [aOp] at hx
   split at hx
   case h_2=>cases hx
   rename_i p k n hp hi
   split at hx
   case isFalse=>cases hx
   rename_i hn
   cases hx
   rw [hp] at hxv;rw [hi] at hiv
   obtain ⟨L,hL,hsp,h2⟩:=hxv.ptr_left
   refine zOs.plain hinv ?_ (zVr.ptr_add hL hsp (n.toNat*s))
   simp only [execOp]
   refine zRv P w _ ?_
   rw [h2,hiv.int_left]
   exact run_indexAt_array' hu hs _ k n hn
  ·cases htr
 case index t x ix=>
  have hxv:=hop x (by simp [Op.operands])
  have hiv:=hop ix (by simp [Op.operands])
  split at htr
  ·rename_i len e hu
   obtain ⟨s,hs,htr⟩:=zOb htr
   obtain ⟨ag,hag,htr⟩:=zOb htr
   cases htr
   simp only [aOp] at hx
   split at hx
   case h_2=>cases hx
   rename_i cs k n hcs hi
   split at hx
   case isFalse=>cases hx
   rename_i hn
   rw [hcs] at hxv;rw [hi] at hiv
   obtain ⟨ys,h2,h3,h4⟩:=hxv.agg_left
   cases ag with
   | true=>
     simp only [if_true] at hx
     cases hx
     refine zOs.plain hinv (v':=.agg (ys.extract (n.toNat*s) (n.toNat*s+s))) ?_ (zVr.agg_iff.2 ⟨?_, ?_⟩)
     ·simp only [execOp]
      refine zRv P w _ ?_
      rw [h2,hiv.int_left,run_index_array' hu hs ys k n hn]
      exact run_partN hag hs
     ·rw [extract_toList];simpa using (h3.drop (n.toNat*s)).take s
     ·rw [extract_toList];exact fun y hy=>h4 y (List.mem_of_mem_drop (List.mem_of_mem_take hy))
   | false=>
     simp only [Bool.false_eq_true,if_false,Option.map_eq_some_iff,Prod.mk.injEq] at hx
     obtain ⟨c,hc,rfl,rfl⟩:=hx
     obtain ⟨y,h5,h6⟩:=h3.get hc
     refine zOs.plain hinv (v':=y) ?_ h6
     simp only [execOp]
     refine zRv P w _ ?_
     rw [h2,hiv.int_left,run_index_array' hu hs ys k n hn]
     exact run_part1 hag (by simpa using h5)
  ·rename_i hu
   cases htr
   simp only [aOp] at hx
   split at hx
   case h_2=>cases hx
   rename_i q k n hq hi
   split at hx
   case isFalse=>cases hx
   rename_i hn
   simp only [Option.map_eq_some_iff,Prod.mk.injEq] at hx
   obtain ⟨b,hb,rfl,rfl⟩:=hx
   rw [hq] at hxv;rw [hi] at hiv
   refine zOs.plain hinv (v':=.int .u8 b.toNat) ?_ (.atom rfl)
   simp only [execOp]
   refine zRv P w _ ?_
   rw [hxv.string_left,hiv.int_left]
   exact run_index_string' hu q k n hn hb
  ·cases htr
 case lookup t m k ok=>
  split at htr
  ·rename_i kt e hu
   obtain ⟨z,hz,htr⟩:=zOb htr
   obtain ⟨kk,hk,htr⟩:=zOb htr
   cases htr
   exact lookup_sound hinv hu hk hz (hop m (by simp [Op.operands])) (hop k (by simp [Op.operands])) hx _ rfl
  ·cases htr
 case mapUpdate t m k x=>
  split at htr
  ·rename_i kt e hu
   simp only [Option.map_eq_some_iff] at htr
   obtain ⟨kk,hk,rfl⟩:=htr
   obtain ⟨w',q1,q2,q3,q4,rfl⟩:=mapUpdate_run (P:=P) hinv hu hk (hop m (by simp [Op.operands])) (hop k (by simp [Op.operands])) (hop x (by simp [Op.operands])) hx
   refine zOs.wrote hinv (nx:=.skip) ?_ rfl (.atom rfl) q2 q3 q4
   simp only [execOp]
   exact run_unit P w _ q1
  ·cases htr
 case insert t m k x=>
  split at htr
  ·rename_i kt e hu
   simp only [Option.map_eq_some_iff] at htr
   obtain ⟨kk,hk,rfl⟩:=htr
   obtain ⟨w',q1,q2,q3,q4,rfl⟩:=mapUpdate_run (P:=P) hinv hu hk (hop m (by simp [Op.operands])) (hop k (by simp [Op.operands])) (hop x (by simp [Op.operands])) hx
   refine zOs.wrote hinv (nx:=.skip) ?_ rfl (.atom rfl) q2 q3 q4
   simp only [execOp]
   exact run_unit P w _ q1
  ·cases htr
 case mapEntry t m k=>
  split at htr
  ·rename_i kt e hu
   obtain ⟨z,hz,htr⟩:=zOb htr
   obtain ⟨kk,hk,htr⟩:=zOb htr
   cases htr
   obtain ⟨v',w',q1,q2,q3,q4,q5⟩:=mapEntry_run (P:=P) hinv hu hk hz (hop m (by simp [Op.operands])) (hop k (by simp [Op.operands])) hx
   refine zOs.wrote hinv (nx:=.value v') ?_ rfl q2 q3 q4 q5
   simp only [execOp]
   exact zRv P w _ q1
  ·cases htr
 case entryStore t m s x=>
  cases htr
  obtain ⟨w',q1,q2,q3,q4,rfl⟩:=entryStore_run (P:=P) hinv t (hop m (by simp [Op.operands])) (hop s (by simp [Op.operands])) (hop x (by simp [Op.operands])) hx
  refine zOs.wrote hinv (nx:=.skip) ?_ rfl (.atom rfl) q2 q3 q4
  simp only [execOp]
  exact run_unit P w _ q1
 case extract x ix=>
  have hxv:=hop x (by simp [Op.operands])
  cases htr
  simp only [aOp] at hx
  split at hx
  case h_2=>cases hx
  rename_i vs hvs
  simp only [Option.map_eq_some_iff,Prod.mk.injEq] at hx
  obtain ⟨c,hc,rfl,rfl⟩:=hx
  rw [hvs] at hxv
  obtain ⟨ys,h2,h3⟩:=hxv.tuple_left
  obtain ⟨y,h5,h6⟩:=h3.get hc
  refine zOs.plain hinv (v':=y) ?_ h6
  simp only [execOp]
  refine zRv P w _ ?_
  rw [h2]
  have h5':ys[ix]? = some y:=by simpa using h5
  simp [Instr.extract,h5']
end
end Go.AM

namespace Go.AM
theorem zMl (base:Nat):∀(l:List Nat) (H:zH),(zMh base l H).length=H.length
 | [],_=>rfl
 | i::l,H=>by simp only [zMh,List.foldl_cons];exact (zMl base l _).trans (by simp)
theorem zUl (base:Nat) (H0:zH):∀(l:List Nat) (H:zH),(zUm base l H0 H).length=H.length
 | [],_=>rfl
 | i::l,H=>by simp only [zUm,List.foldl_cons];exact (zUl base H0 l _).trans (by simp)
theorem mask_out (base:Nat) {j:Nat}:∀(l:List Nat) (H:zH),(∀i∈l,base+i≠j)→(zMh base l H)[j]? = H[j]?
 | [],_,_=>rfl
 | i::l,H,h=>by
   simp only [zMh,List.foldl_cons]
   have:=mask_out base (j:=j) l (H.set (base+i) .dead) fun k hk=>h k (List.mem_cons_of_mem _ hk)
   simp only [zMh] at this
   rw [this,List.getElem?_set,if_neg (h i List.mem_cons_self)]
theorem mask_in (base:Nat) {j:Nat}:∀(l:List Nat) (H:zH),(∃i∈l,base+i=j)→j<H.length→(zMh base l H)[j]? = some .dead
 | [],_,h,_=>by simp at h
 | i::l,H,h,hj=>by
   simp only [zMh,List.foldl_cons]
   by_cases hl:∃k∈l,base+k=j
   ·exact mask_in base l _ hl (by simpa using hj)
   ·have h0:base+i=j:=by
     obtain ⟨k,hk,e⟩:=h
     rcases List.mem_cons.1 hk with rfl | hk
     ·exact e
     ·exact absurd ⟨k,hk,e⟩ hl
    have:=mask_out base (j:=j) l (H.set (base+i) .dead) fun k hk e=>hl ⟨k,hk,e⟩
    simp only [zMh] at this
    rw [this,List.getElem?_set,if_pos h0,if_pos (by omega)]
theorem unmask_out (base:Nat) (H0:zH) {j:Nat}:∀(l:List Nat) (H:zH),(∀i∈l,base+i≠j)→(zUm base l H0 H)[j]? = H[j]?
 | [],_,_=>rfl
 | i::l,H,h=>by
   simp only [zUm,List.foldl_cons]
   have:=unmask_out base H0 (j:=j) l (H.set (base+i) (zG H0 (base+i))) fun k hk=>h k (List.mem_cons_of_mem _ hk)
   simp only [zUm] at this
   rw [this,List.getElem?_set,if_neg (h i List.mem_cons_self)]
theorem unmask_in (base:Nat) (H0:zH) {j:Nat}:∀(l:List Nat) (H:zH),(∃i∈l,base+i=j)→j<H.length→(zUm base l H0 H)[j]? = some (zG H0 j)
 | [],_,h,_=>by simp at h
 | i::l,H,h,hj=>by
   simp only [zUm,List.foldl_cons]
   by_cases hl:∃k∈l,base+k=j
   ·exact unmask_in base H0 l _ hl (by simpa using hj)
   ·have h0:base+i=j:=by
     obtain ⟨k,hk,e⟩:=h
     rcases List.mem_cons.1 hk with rfl | hk
     ·exact e
     ·exact absurd ⟨k,hk,e⟩ hl
    have:=unmask_out base H0 (j:=j) l (H.set (base+i) (zG H0 (base+i))) fun k hk e=>hl ⟨k,hk,e⟩
    simp only [zUm] at this
    rw [this,List.getElem?_set,if_pos h0,if_pos (by omega),h0]
theorem hget_lt {H:zH} {j:Nat} (h:j<H.length):H[j]? = some (zG H j):=by
 unfold zG
 rw [List.getD_eq_getElem?_getD,List.getElem?_eq_getElem h]
 rfl
theorem unmask_mask (base:Nat) (l:List Nat) (H:zH):zUm base l H (zMh base l H)=H:=by
 apply List.ext_getElem?
 intro j
 by_cases hj:j<H.length
 ·by_cases hl:∃i∈l,base+i=j
  ·rw [unmask_in base H l _ hl (by rw [zMl];exact hj),hget_lt hj]
  ·have hl':∀i∈l,base+i≠j:=fun i hi e=>hl ⟨i,hi,e⟩
   rw [unmask_out base H l _ hl',mask_out base l _ hl']
 ·rw [List.getElem?_eq_none (by rw [zUl,zMl];omega),List.getElem?_eq_none (by omega)]
theorem mask_set (base:Nat) (l:List Nat) (H:zH) {r:Nat} (hr:r∈l) (b:Blk):zMh base l (H.set (base+r) b)=zMh base l H:=by
 apply List.ext_getElem?
 intro j
 by_cases hj:j<H.length
 ·by_cases hl:∃i∈l,base+i=j
  ·rw [mask_in base l _ hl (by simpa using hj),mask_in base l _ hl hj]
  ·have hl':∀i∈l,base+i≠j:=fun i hi e=>hl ⟨i,hi,e⟩
   rw [mask_out base l _ hl',mask_out base l _ hl',List.getElem?_set,if_neg (hl' r hr)]
 ·rw [List.getElem?_eq_none (by rw [zMl];simp;omega),List.getElem?_eq_none (by rw [zMl];omega)]
theorem unmask_set' (base:Nat) (l:List Nat) (H X:zH) {r:Nat} (hr:r∈l) (b:Blk) (hlt:base+r<H.length) (hX:H.length≤X.length):zUm base l (H.set (base+r) b) X=(zUm base l H X).set (base+r) b:=by
 apply List.ext_getElem?
 intro j
 by_cases hj:j<X.length
 ·by_cases hl:∃i∈l,base+i=j
  ·rw [unmask_in base _ l X hl hj,List.getElem?_set]
   by_cases he:base+r=j
   ·subst he
    rw [if_pos rfl,if_pos (by rw [zUl];exact hj)]
    unfold zG
    rw [List.getD_eq_getElem?_getD,List.getElem?_set_self hlt]
    rfl
   ·rw [if_neg he,unmask_in base H l X hl hj]
    unfold zG
    rw [List.getD_eq_getElem?_getD,List.getElem?_set_ne he,←List.getD_eq_getElem?_getD]
  ·have hl':∀i∈l,base+i≠j:=fun i hi e=>hl ⟨i,hi,e⟩
   rw [unmask_out base _ l X hl',List.getElem?_set_ne (hl' r hr),unmask_out base H l X hl']
 ·rw [List.getElem?_eq_none (by rw [zUl];omega),List.getElem?_eq_none (by rw [List.length_set,zUl];omega)]
theorem place_some {d:Nat} {b:Blk} {H:zH}:place (some d) b H=(d,H.set d b):=rfl
theorem kind_p' {o:AOp} (hk:kind o=.p) (lim:Nat) (dest:Option Nat) (ρ:Operand→Value) (H:zH) :
  aOp lim dest o ρ H=((aOp lim dest o ρ []).map (·.1)).map (·,H):=by
 cases o<;>simp [kind] at hk<;>simp only [aOp]
 case mov=>rfl
 case lenK=>rfl
 case makeFunc=>rfl
 case pick c a b=>cases ρ c<;>first | rfl | (rename_i b;cases b<;>rfl)
 case bin op x y=>cases zB op (ρ x) (ρ y)<;>rfl
 case eqv neg k x y=>cases aEq k (ρ x) (ρ y)<;>rfl
 case un op x=>cases aUn op (ρ x)<;>rfl
 case conv k x=>cases ρ x<;>rfl
 case build z ps=>cases fillParts ρ ps z<;>rfl
 case nilCheck x=>cases ρ x<;>first | rfl | (rename_i a;cases a<;>rfl) | (rename_i f a b;cases f<;>rfl)
 case fieldAddr o x=>cases ρ x<;>first | rfl | (rename_i a;cases a<;>rfl)
 case field1 o x=>cases ρ x<;>first | rfl | (rename_i cs;simp only [];cases cs.toList[o]?<;>rfl)
 case fieldN o n x=>cases ρ x<;>rfl
 case idxAddrA l e x i=>split<;>first | rfl | (split<;>rfl)
 case idxAddrS e x i=>split<;>first | rfl | (split<;>rfl)
 case idxA l e ag x i=>
  split
  ·split
   ·split
    ·rfl
    ·simp [Function.comp_def]
   ·rfl
  ·rfl
 case idxStr x i=>
  split
  ·split
   ·simp [Function.comp_def]
   ·rfl
  ·rfl
 case sliceS e x lo hi mx=>cases aSliceS e ρ (ρ x) lo hi mx<;>rfl
 case sliceA n e x lo hi mx=>
  split
  ·split
   ·split<;>rfl
   ·rfl
  ·rfl
 case sliceStr x lo hi=>
  split
  ·split<;>rfl
  ·rfl
 case lenStr x=>cases ρ x<;>rfl
 case lenSlice x=>cases ρ x<;>rfl
 case capSlice x=>
  cases ρ x<;>try rfl
  rename_i a n c
  by_cases h:c<2 ^ 62<;>simp only [h,if_true,if_false]<;>rfl
 case die=>rfl
 case minmax mx xs=>
  cases xs with
  | nil=>rfl
  | cons x r=>simp only [];cases aMinMaxAll mx (ρ x) (r.map ρ)<;>rfl
 case extract i x=>cases ρ x<;>first | rfl | (rename_i vs;simp only [];cases vs.toList[i]?<;>rfl)
 case strId x=>cases ρ x<;>rfl
 case call mp f args=>split at hk<;>cases hk
theorem kind_p {o:AOp} (hk:kind o=.p) {lim:Nat} {dest:Option Nat} {ρ:Operand→Value} {H H':zH} {v:Value} (h:aOp lim dest o ρ H=some (v,H')) :
  H'=H∧∀H2,aOp lim dest o ρ H2=some (v,H2):=by
 rw [kind_p' hk] at h
 cases hg:(aOp lim dest o ρ []).map (·.1) with
 | none=>rw [hg] at h;cases h
 | some c=>
   rw [hg] at h
   cases h
   exact ⟨rfl,fun H2=>by rw [kind_p' hk,hg];rfl⟩
theorem kind_r {o:AOp} (hk:kind o=.r) (hc:∀mp f args,o≠.call mp f args) {lim:Nat} {dest:Option Nat} {ρ:Operand→Value} {H H':zH} {v:Value} (h:aOp lim dest o ρ H=some (v,H')):H'=H:=by
 have fin:∀{x:Option Value},(x.map fun c=>(c,H))=some (v,H')→H'=H:=by
  intro x h
  cases x with
  | none=>cases h
  | some c=>cases h;rfl
 cases o<;>simp [kind] at hk<;>simp only [aOp] at h
 case load1=>split at h;exact fin h;cases h
 case loadN=>
  split at h
  ·simp only [Option.map_eq_some_iff,Prod.mk.injEq] at h;obtain ⟨_,_,_,h⟩:=h;exact h.symm
  ·cases h
 case loadR=>
  split at h
  ·split at h
   ·simp only [Option.map_eq_some_iff,Prod.mk.injEq] at h;obtain ⟨_,_,_,h⟩:=h;exact h.symm
   ·cases h
  ·cases h
 case loadO=>
  split at h
  ·split at h
   ·simp only [Option.map_eq_some_iff,Prod.mk.injEq] at h;obtain ⟨_,_,_,h⟩:=h;exact h.symm
   ·cases h
  ·cases h
 case lenMap=>simp only [Option.map_eq_some_iff,Prod.mk.injEq] at h;obtain ⟨_,_,_,h⟩:=h;exact h.symm
 case lookup=>
  split at h
  ·split at h
   ·split at h<;>cases h<;>rfl
   ·cases h
  ·cases h
 case rowMark=>
  split at h
  ·split at h
   ·split at h
    ·cases h;rfl
    ·cases h
   ·cases h
  ·cases h
 case b2s=>
  split at h
  ·split at h<;>cases h;rfl
  ·split at h
   ·split at h<;>cases h;rfl
   ·cases h
  ·cases h
 case call=>cases h
theorem kind_a {o:AOp} (hk:kind o=.a) {lim d:Nat} {ρ:Operand→Value} {H H':zH} {v:Value} (h:aOp lim (some d) o ρ H=some (v,H')) :
  ∃b,H'=H.set d b∧∀H2,aOp lim (some d) o ρ H2=some (v,H2.set d b):=by
 cases o<;>simp [kind] at hk<;>simp only [aOp,place_some] at h⊢
 case alloc=>cases h;exact ⟨_,rfl,fun _=>rfl⟩
 case box x=>
  split at h
  case isFalse=>cases h
  rename_i ht
  cases h
  exact ⟨_,rfl,fun _=>by rw [if_pos ht]⟩
 case buildSlice=>
  split at h
  case h_2=>cases h
  cases h
  exact ⟨_,rfl,fun _=>rfl⟩
 case makeSlice=>
  split at h
  case h_2=>cases h
  split at h
  case isFalse=>cases h
  rename_i hc
  cases h
  exact ⟨_,rfl,fun _=>by rw [if_pos hc]⟩
 case growNil=>
  split at h
  case h_2=>cases h
  split at h
  case isFalse=>cases h
  rename_i hc
  cases h
  exact ⟨_,rfl,fun _=>by rw [if_pos hc]⟩
 case makeMap=>
  split at h
  case h_2=>cases h
  cases h
  exact ⟨_,rfl,fun _=>rfl⟩
 case call mp f args=>split at hk<;>cases hk
theorem hget_setn {X:zH} {i j:Nat} {b:Blk} (h:i≠j):zG (X.set j b) i=zG X i:=by
 unfold zG;rw [List.getD_eq_getElem?_getD,List.getD_eq_getElem?_getD,List.getElem?_set_ne (Ne.symm h)]
theorem kind_isS {o:AOp} (h:kind o=.s):isS o=true:=by
 cases o<;>(try (simp [kind] at h;done))<;>(try rfl)
 simp only [kind] at h
 split at h<;>cases h
theorem isS_kind {o:AOp} (h:isS o=true):kind o=.s∧makes o=false:=by
 cases o<;>simp [isS] at h
 exact ⟨rfl,rfl⟩
theorem kind_s {o:AOp} (hk:kind o=.s) {lim d:Nat} {ρ:Operand→Value} {H H':zH} {v:Value} (h:aOp lim (some d) o ρ H=some (v,H')) :
  ∃b,H'=H.set d b∧∀H2,zG H2 d=zG H d→aOp lim (some d) o ρ H2=some (v,H2.set d b):=by
 have hs:=kind_isS hk
 cases o<;>simp [isS] at hs
 rename_i n a x
 cases ha:ρ a with
 | pointer q=>
   cases q with
   | none=>simp [aOp,ha] at h
   | some p=>
     simp only [aOp,ha] at h⊢
     split at h
     case isFalse=>cases h
     rename_i hc
     simp only [Option.map_eq_some_iff,Prod.mk.injEq] at h
     obtain ⟨K,h1,rfl,rfl⟩:=h
     unfold storeAt at h1
     rw [hc.1] at h1
     split at h1
     case h_2=>cases h1
     rename_i c hb
     split at h1
     case isFalse=>cases h1
     rename_i hl
     cases h1
     refine ⟨_,rfl,fun H2 h2=>?_⟩
     rw [if_pos hc]
     unfold storeAt
     rw [hc.1,h2,hb]
     simp only
     rw [if_pos hl]
     rfl
 | _=>simp [aOp,ha] at h
theorem aOp_unf {o:AOp} {lim:Nat} {dest:Option Nat} {ρ:Operand→Value} {H:zH} {r} (h:aOp lim dest o ρ H=some r):aOp lim dest (unf o) ρ H=some r:=by
 cases o<;>try exact h
 case loadO n x b=>
  simp only [aOp] at h
  split at h
  case h_2=>cases h
  rename_i p q ha hb
  split at h
  case isFalse=>cases h
  cases n with
  | none=>simp only [unf,aOp,ha];exact h
  | some k=>
    simp only [unf,aOp,ha]
    simp only [loadX,Option.map_map] at h
    exact h
 case storeN n a x=>
  simp only [aOp] at h
  split at h
  case h_2=>cases h
  rename_i p ha
  split at h
  case isFalse=>cases h
  rename_i hc
  simp only [unf,aOp,ha]
  rw [if_pos hc.2]
  exact h
 case storeO n a x b=>
  simp only [aOp] at h
  split at h
  case h_2=>cases h
  rename_i p q ha hb
  split at h
  case isFalse=>cases h
  rename_i hc
  simp only [unf,aOp,ha]
  rw [if_pos hc.2]
  exact h
 case loadR n x=>
  cases ha:ρ x with
  | pointer q=>
    cases q with
    | none=>simp [aOp,ha] at h
    | some p=>
      simp only [aOp,ha] at h
      split at h
      case isFalse=>cases h
      cases n with
      | none=>simp only [unf,aOp,ha];exact h
      | some k=>
        simp only [unf,aOp,ha]
        simp only [loadX,Option.map_map] at h
        exact h
  | _=>simp [aOp,ha] at h
 case storeD n a x=>
  cases dest with
  | none=>simp [aOp] at h
  | some d=>
    cases ha:ρ a with
    | pointer q=>
      cases q with
      | none=>simp [aOp,ha] at h
      | some p=>
        simp only [aOp,ha] at h
        split at h
        case isFalse=>cases h
        rename_i hc
        simp only [unf,aOp,ha]
        rw [if_pos hc.2]
        exact h
    | _=>simp [aOp,ha] at h
 case append0=>
  simp only [aOp] at h
  split at h
  ·rename_i hs;simp only [unf,aOp,hs];exact h
  ·cases h
 case appendL=>
  simp only [aOp] at h
  split at h
  ·rename_i hs;simp only [unf,aOp,hs];exact h
  ·rename_i hs
   split at h
   ·simp only [unf,aOp,hs];exact h
   ·cases h
  ·cases h
theorem isL_unf {o:AOp} (h:isL o=true):kind o=.w∧makes o=true∧isL (unf o)=false∧kind (unf o)=.w∧makes (unf o)=true:=by
 cases o<;>simp [isL] at h
 simp [unf,kind,makes,isL]
theorem isL_keeps {o:AOp} (hL:isL o=true) {lim d:Nat} {ρ:Operand→Value} {H H':zH} {v:Value} (h:aOp lim (some d) o ρ H=some (v,H')) (j:Nat) (hj:j≠d):H'[j]? = H[j]?∨H'[j]? = some .dead:=by
 cases o<;>simp [isL] at hL
 have set:∀{H:zH} {i:Nat} {b:Blk},j≠i→(H.set i b)[j]? = H[j]?:=fun {H i b} h=>by rw [List.getElem?_set,if_neg (Ne.symm h)]
 have dead:∀{H:zH} {i:Nat},(H.set i .dead)[j]? = H[j]?∨(H.set i .dead)[j]? = some .dead:=fun {H i}=>by
  by_cases e:i=j
  ·subst e
   rw [List.getElem?_set,if_pos rfl]
   by_cases hi:i<H.length
   ·rw [if_pos hi];exact .inr rfl
   ·rw [if_neg hi,List.getElem?_eq_none (by omega)];exact .inl rfl
  ·exact .inl (set (Ne.symm e))
 simp only [aOp] at h
 split at h
 ·unfold zAa at h
  split at h
  case h_2=>cases h
  rename_i e1 e2 e3
  cases e1
  split at h
  ·cases h
  split at h
  ·cases h;exact .inl rfl
  simp only at h
  split at h
  ·cases h;exact .inl (set hj)
  ·cases h
 ·split at h
  case isFalse=>cases h
  rename_i hc
  unfold zAa at h
  split at h
  case h_2=>cases h
  rename_i e1 e2 e3
  cases e1
  split at h
  ·cases h
  split at h
  ·cases h;exact .inl rfl
  repeat' (split at h)
  all_goals first
   | (cases h;done)
   | contradiction
   | (cases h;exact .inl rfl)
   | (cases h;exact .inl (set hj))
   | (cases h;rename_i hpl;simp only [place,Prod.mk.injEq] at hpl;obtain ⟨_,rfl⟩:=hpl;rw [set hj];exact dead)
   | (cases h;rename_i hpl;simp only [place,Prod.mk.injEq] at hpl;obtain ⟨_,rfl⟩:=hpl;exact .inl (set hj))
   | (exfalso;omega)
 ·cases h
theorem kind_n {o:AOp} (hk:kind o=.n) {lim d:Nat} {ρ:Operand→Value} {H H':zH} {v:Value} (h:aOp lim (some d) o ρ H=some (v,H')):H'=H∨∃b,H'=H.set d b:=by
 cases o<;>simp [kind] at hk<;>simp only [aOp] at h
 case append0=>
  split at h
  case h_2=>cases h
  unfold zAa at h
  split at h
  case h_2=>cases h
  rename_i e1 e2 e3
  cases e1
  split at h
  ·cases h
  split at h
  ·cases h;exact .inl rfl
  split at h
  ·split at h
   ·simp only [place_some] at h;cases h;exact .inr ⟨_,rfl⟩
   ·cases h
  ·split at h
   ·cases h
   split at h
   ·rename_i q;exact absurd q (by unfold loose;omega)
   ·split at h
    ·split at h
     ·omega
     ·simp only [place_some] at h;cases h;exact .inr ⟨_,rfl⟩
    ·cases h
 case call mp f args=>split at hk<;>cases hk
theorem aOp_congr {o:AOp} {lim:Nat} {dest:Option Nat} {ρ ρ':Operand→Value} {H:zH} (h:∀x∈o.operands,ρ x=ρ' x):aOp lim dest o ρ H=aOp lim dest o ρ' H:=by
 have fp:∀(ps:List (Nat×Nat×Operand)) (c:List Value),(∀x∈ps.map (·.2.2),ρ x=ρ' x)→fillParts ρ ps c=fillParts ρ' ps c:=by
  intro ps
  induction ps with
  | nil=>intro c _;rfl
  | cons p ps ih=>
    intro c hp
    obtain ⟨o,s,x⟩:=p
    simp only [fillParts,hp x (by simp)]
    split
    ·exact ih _ fun y hy=>hp y (by simp at hy⊢;exact .inr hy)
    ·rfl
 have bd:∀(len cap:Nat) (lo hi mx:Option Operand),(∀x∈lo.toList++hi.toList++mx.toList,ρ x=ρ' x)→bounds ρ len cap lo hi mx=bounds ρ' len cap lo hi mx:=by
  intro len cap lo hi mx hb
  cases lo<;>cases hi<;>cases mx<;>simp at hb<;>unfold bounds<;>(try simp only [hb])
 cases o<;>simp only [AOp.operands] at h<;>simp only [aOp]
 case build z ps=>rw [fp ps z h]
 case buildSlice n z ps=>rw [fp ps z h]
 case sliceS e x lo hi mx=>
  have hx:=h x (by simp)
  have hb:=fun len cap=>bd len cap lo hi mx fun y hy=>h y (List.mem_cons_of_mem _ hy)
  simp only [hx,aSliceS,hb]
 case sliceA n e x lo hi mx=>
  have hx:=h x (by simp)
  have hb:=fun len cap=>bd len cap lo hi mx fun y hy=>h y (List.mem_cons_of_mem _ hy)
  simp only [hx,hb]
 case sliceStr x lo hi=>
  have hx:=h x (by simp)
  have hb:=fun len cap=>bd len cap lo hi none fun y hy=>h y (List.mem_cons_of_mem _ (by simpa using hy))
  simp only [hx,hb]
 case minmax mx xs=>
  cases xs with
  | nil=>rfl
  | cons x r=>simp only [h x (by simp),List.map_congr_left fun y hy=>h y (List.mem_cons_of_mem _ hy)]
 case makeMap hint=>
  cases hint with
  | none=>rfl
  | some x=>simp only [h x (by simp)]
 case makeFunc f a b=>
  rw [List.map_congr_left fun y hy=>h y (by simp [hy]),List.map_congr_left (l:=b) fun y hy=>h y (by simp [hy])]
 all_goals (first | rfl | (simp only [List.mem_cons,List.not_mem_nil,or_false,forall_eq_or_imp,forall_eq] at h;simp only [h]))
structure CallOk0 (C:CallF):Prop where
 pure:∀lim g as H v H',C true lim g as H=some (v,H')→H'=H
 len:∀mp lim g as H v H',C mp lim g as H=some (v,H')→lim≤H.length→H.length≤H'.length
 keep:∀mp lim g as H v H',C mp lim g as H=some (v,H')→lim≤H.length→∀j,j<lim→H'[j]? = H[j]?
theorem storeAt_len {lim:Nat} {H H':zH} {a:Addr} {vs:List Value} (h:storeAt lim H a vs=some H'):H'.length=H.length:=by
 unfold storeAt at h
 split at h
 ·split at h
  ·cases h;simp
  ·cases h
 ·cases h
theorem kind_w_len0 {o:AOp} (hL:isL o=false) (hk:kind o=.w) {lim d:Nat} {ρ:Operand→Value} {H H':zH} {v:Value} (h:aOp lim (some d) o ρ H=some (v,H')):H'.length=H.length:=by
 cases o<;>simp [kind] at hk<;>simp only [aOp] at h
 case store=>
  split at h
  ·split at h
   ·simp only [Option.map_eq_some_iff,Prod.mk.injEq] at h;obtain ⟨_,h1,_,rfl⟩:=h;exact storeAt_len h1
   ·cases h
  ·cases h
 case storeN=>
  split at h
  ·split at h
   ·simp only [Option.map_eq_some_iff,Prod.mk.injEq] at h;obtain ⟨_,h1,_,rfl⟩:=h;exact storeAt_len h1
   ·cases h
  ·cases h
 case storeO=>
  split at h
  ·split at h
   ·simp only [Option.map_eq_some_iff,Prod.mk.injEq] at h;obtain ⟨_,h1,_,rfl⟩:=h;exact storeAt_len h1
   ·cases h
  ·cases h
 case append=>
  unfold zAa at h
  split at h
  case h_2=>cases h
  split at h
  ·cases h
  split at h
  ·cases h;rfl
  split at h
  ·split at h
   ·simp only [place_some] at h;cases h;simp
   ·cases h
  ·split at h
   ·cases h
   split at h
   ·split at h
    ·split at h
     ·simp only [place_some] at h;cases h;simp
     ·cases h
    ·cases h
   ·split at h
    ·split at h
     ·split at h
      ·rename_i h1;cases h;exact storeAt_len h1
      ·cases h
     ·simp only [place_some] at h;cases h;simp
    ·cases h
 case copy=>
  split at h
  ·split at h
   ·split at h
    ·split at h
     ·cases h;rfl
     ·simp only [Option.map_eq_some_iff,Prod.mk.injEq] at h;obtain ⟨_,h1,_,rfl⟩:=h;exact storeAt_len h1
    ·split at h
     ·cases h;rfl
     ·cases h
   ·cases h
  ·cases h
 case mapUpdate=>
  split at h
  ·split at h
   ·split at h
    ·split at h<;>cases h<;>simp
    ·cases h
   ·cases h
  ·cases h
 case mapEntry=>
  split at h
  ·split at h
   ·split at h
    ·split at h<;>cases h<;>simp
    ·cases h
   ·cases h
  ·cases h
 case entryStore=>
  split at h
  ·split at h
   ·split at h
    ·cases h;simp
    ·cases h
   ·cases h
  ·cases h
 case clear=>
  split at h
  ·split at h
   ·cases h;rfl
   ·simp only [Option.map_eq_some_iff,Prod.mk.injEq] at h;obtain ⟨_,h1,_,rfl⟩:=h;exact storeAt_len h1
  ·cases h
 case delete=>cases h
 case call=>split at hk<;>cases hk
 case appendL=>simp [isL] at hL
theorem kind_w_len {o:AOp} (hk:kind o=.w) {lim d:Nat} {ρ:Operand→Value} {H H':zH} {v:Value} (h:aOp lim (some d) o ρ H=some (v,H')):H'.length=H.length:=by
 cases hL:isL o with
 | false=>exact kind_w_len0 hL hk h
 | true=>obtain ⟨_,_,h1,h2,_⟩:=isL_unf hL;exact kind_w_len0 h1 h2 (aOp_unf h)
structure Planned (x:zIn):Prop where
 bare:kind x.op=.p∨kind x.op=.a∨kind x.op=.s→x.mask=[]
 dest:makes x.op=true→∃r,x.dest=some r
 home:isS x.op=true→∃r,x.dest=some r
theorem makes_a {o:AOp} (h:kind o=.a):makes o=true:=by cases o<;>simp_all [makes,kind]
theorem kind_w_len' {o:AOp} (hk:kind o=.w) (hm:makes o=false) {lim:Nat} {dest:Option Nat} {ρ:Operand→Value} {H H':zH} {v:Value} (h:aOp lim dest o ρ H=some (v,H')):H'.length=H.length:=by
 have key:aOp lim dest o ρ H=aOp lim (some 0) o ρ H:=by
  cases o<;>simp [kind] at hk<;>simp [makes] at hm<;>rfl
 rw [key] at h
 exact kind_w_len hk h
section
variable {C:CallF} {N lim base:Nat}
def zBv (C:CallF) (lim base:Nat) (i:zIn) (ρ:Operand→Value) (H:zH):Option (Value×zH):=
 match stepOp C lim (i.dest.map (base+·)) i.op ρ (zMh base i.mask H) with
 | some (v,H')=>some (v,zUm base i.mask H H')
 | none=>none
theorem insVal_some {i:zIn} {fr:Nat→Value} {H:zH}:insVal C N lim (some base) i fr H =
  match wantedA N fr i.guard with
  | none=>none
  | some false=>some (undef,H)
  | some true=>zBv C lim base i (ev fr) H:=rfl
theorem zSp {o:AOp} (h:∀mp f args,o≠.call mp f args) (dest:Option Nat) (ρ:Operand→Value) (H:zH):stepOp C lim dest o ρ H=aOp lim dest o ρ H:=by
 cases o<;>first | rfl | (exact absurd rfl (h _ _ _))
theorem kind_call {o:AOp} (h:∃mp f args,o=.call mp f args):kind o=.r∨kind o=.c:=by
 obtain ⟨mp,f,args,rfl⟩:=h
 cases mp<;>simp [kind,CM.isPure]
theorem not_call {o:AOp} (h:kind o=.p∨kind o=.a∨kind o=.w):∀mp f args,o≠.call mp f args:=fun mp f args e=>by
 rcases kind_call ⟨mp,f,args,e⟩ with h' | h'<;>rw [h'] at h<;>simp at h
theorem body_p {i:zIn} (hp:Planned i) (hk:kind i.op=.p) (ρ:Operand→Value) (H:zH):zBv C lim base i ρ H=((aOp lim (i.dest.map (base+·)) i.op ρ []).map (·.1)).map (·,H):=by
 unfold zBv
 rw [hp.bare (.inl hk),zSp (not_call (.inl hk))]
 simp only [zMh,zUm,List.foldl_nil]
 rw [kind_p' hk]
 cases (Option.map (fun x=>x.1) (aOp lim (Option.map (fun x=>base+x) i.dest) i.op ρ []))<;>rfl
theorem body_r (hC:CallOk0 C) {i:zIn} (hk:kind i.op=.r) {ρ:Operand→Value} {H H':zH} {v:Value} (h:zBv C lim base i ρ H=some (v,H')):H'=H:=by
 unfold zBv at h
 split at h
 case h_2=>cases h
 rename_i v1 H1 h1
 cases h
 have:H1=zMh base i.mask H:=by
  by_cases hc:∃mp f args,i.op=.call mp f args
  ·obtain ⟨mp,f,args,hc⟩:=hc
   rw [hc] at h1 hk
   have hmp:mp=.pure:=by cases mp<;>simp [kind,CM.isPure] at hk⊢
   subst hmp
   simp only [stepOp] at h1
   split at h1
   ·exact hC.pure _ _ _ _ _ _ (finM_some h1).1
   ·cases h1
  ·rw [zSp (fun mp f args e=>hc ⟨mp,f,args,e⟩)] at h1
   exact kind_r hk (fun mp f args e=>hc ⟨mp,f,args,e⟩) h1
 rw [this,unmask_mask]
theorem body_a {i:zIn} (hp:Planned i) (hk:kind i.op=.a) {r:Nat} (hr:i.dest=some r) {ρ:Operand→Value} {H H':zH} {v:Value} (h:zBv C lim base i ρ H=some (v,H')) :
  ∃b,H'=H.set (base+r) b∧∀H2,zBv C lim base i ρ H2=some (v,H2.set (base+r) b):=by
 unfold zBv at h⊢
 rw [hp.bare (.inr (.inl hk)),zSp (not_call (.inr (.inl hk))),hr] at h
 simp only [zMh,zUm,List.foldl_nil,Option.map_some] at h
 split at h
 case h_2=>cases h
 rename_i v1 H1 h1
 cases h
 obtain ⟨b,e1,e2⟩:=kind_a hk h1
 refine ⟨b,e1,fun H2=>?_⟩
 rw [hp.bare (.inr (.inl hk)),zSp (not_call (.inr (.inl hk))),hr]
 simp only [zMh,zUm,List.foldl_nil,Option.map_some,e2]
theorem body_s {i:zIn} (hp:Planned i) (hk:kind i.op=.s) {r:Nat} (hr:i.dest=some r) {ρ:Operand→Value} {H H':zH} {v:Value} (h:zBv C lim base i ρ H=some (v,H')) :
  ∃b,H'=H.set (base+r) b∧∀H2,zG H2 (base+r)=zG H (base+r)→zBv C lim base i ρ H2=some (v,H2.set (base+r) b):=by
 have hnc:∀mp f args,i.op≠.call mp f args:=fun mp f args e=>by have:=kind_isS hk;rw [e] at this;simp [isS] at this
 unfold zBv at h⊢
 rw [hp.bare (.inr (.inr hk)),zSp hnc,hr] at h
 simp only [zMh,zUm,List.foldl_nil,Option.map_some] at h
 split at h
 case h_2=>cases h
 rename_i v1 H1 h1
 cases h
 obtain ⟨b,e1,e2⟩:=kind_s hk h1
 refine ⟨b,e1,fun H2 h2=>?_⟩
 rw [hp.bare (.inr (.inr hk)),zSp hnc,hr]
 simp only [zMh,zUm,List.foldl_nil,Option.map_some,e2 H2 h2]
theorem kind_n_len {o:AOp} (hk:kind o=.n) {lim d:Nat} {ρ:Operand→Value} {H H':zH} {v:Value} (h:aOp lim (some d) o ρ H=some (v,H')):H'.length=H.length:=by
 rcases kind_n hk h with rfl | ⟨b,rfl⟩
 ·rfl
 ·simp
theorem makes_n {o:AOp} (h:kind o=.n):makes o=true:=by
 cases o<;>(try (simp_all [makes,kind];done))
 rename_i mp f args
 cases mp<;>simp [kind,CM.isPure] at h
theorem unmask_set_mask (base:Nat) (l:List Nat) (H:zH) (d:Nat) (b:Blk):zUm base l H ((zMh base l H).set d b)=H∨zUm base l H ((zMh base l H).set d b)=H.set d b:=by
 by_cases hd:∃i∈l,base+i=d
 ·left
  apply List.ext_getElem?
  intro j
  by_cases hj:j<H.length
  ·by_cases hl:∃i∈l,base+i=j
   ·rw [unmask_in base H l _ hl (by simp [zMl];exact hj),hget_lt hj]
   ·have hl':∀i∈l,base+i≠j:=fun i hi e=>hl ⟨i,hi,e⟩
    rw [unmask_out base H l _ hl',List.getElem?_set,if_neg (fun e=>hl (by rw [←e];exact hd)),mask_out base l _ hl']
  ·rw [List.getElem?_eq_none (by rw [zUl];simp [zMl];omega),List.getElem?_eq_none (by omega)]
 ·right
  apply List.ext_getElem?
  intro j
  by_cases hj:j<H.length
  ·by_cases hl:∃i∈l,base+i=j
   ·rw [unmask_in base H l _ hl (by simp [zMl];exact hj),List.getElem?_set,if_neg (fun e=>hd (by rw [e];exact hl)),hget_lt hj]
   ·have hl':∀i∈l,base+i≠j:=fun i hi e=>hl ⟨i,hi,e⟩
    rw [unmask_out base H l _ hl',List.getElem?_set,List.getElem?_set,zMl,mask_out base l _ hl']
  ·rw [List.getElem?_eq_none (by rw [zUl];simp [zMl];omega),List.getElem?_eq_none (by simp;omega)]
theorem body_n {i:zIn} (hp:Planned i) (hk:kind i.op=.n) {ρ:Operand→Value} {H H':zH} {v:Value} (h:zBv C lim base i ρ H=some (v,H')) :
  ∃r,i.dest=some r∧(H'=H∨∃b,H'=H.set (base+r) b):=by
 obtain ⟨r,hr⟩:=hp.dest (makes_n hk)
 refine ⟨r,hr, ?_⟩
 unfold zBv at h
 have hnc:∀mp f args,i.op≠.call mp f args:=fun mp f args e=>by rw [e] at hk;cases mp<;>simp [kind,CM.isPure] at hk
 rw [zSp hnc,hr] at h
 simp only [Option.map_some] at h
 split at h
 case h_2=>cases h
 rename_i v1 H1 h1
 cases h
 rcases kind_n hk h1 with rfl | ⟨b,rfl⟩
 ·rw [unmask_mask];exact .inl rfl
 ·rcases unmask_set_mask base i.mask H (base+r) b with e | e
  ·exact .inl e
  ·exact .inr ⟨b,e⟩
theorem kind_c {o:AOp} (h:kind o=.c):∃mp f args,o=.call mp f args:=by
 cases o<;>simp [kind] at h
 exact ⟨_,_,_,rfl⟩
theorem step_len (hC:CallOk0 C) {i:zIn} (hp:Planned i) {ρ:Operand→Value} {A X:zH} {v:Value} (hl:lim≤A.length) (hs:stepOp C lim (i.dest.map (base+·)) i.op ρ A=some (v,X)):A.length≤X.length∧(kind i.op≠.c→X.length=A.length):=by
 by_cases hc:∃mp f args,i.op=.call mp f args
 ·obtain ⟨mp,f,args,hc⟩:=hc
  rw [hc] at hs
  simp only [stepOp] at hs
  split at hs
  case h_2=>cases hs
  have hs':=(finM_some hs).1
  have hlm:mp.lim lim A≤A.length:=by cases mp<;>simp [CM.lim,hl]
  refine ⟨hC.len _ _ _ _ _ _ _ hs' hlm,fun hk=>?_⟩
  rw [hc] at hk
  have hmp:mp=.pure:=by cases mp<;>simp [kind,CM.isPure] at hk⊢
  subst hmp
  rw [hC.pure _ _ _ _ _ _ hs']
 ·have hnc:∀mp f args,i.op≠.call mp f args:=fun mp f args e=>hc ⟨mp,f,args,e⟩
  rw [zSp hnc] at hs
  have:X.length=A.length:=by
   cases hk:kind i.op with
   | p=>rw [kind_p' hk] at hs;simp only [Option.map_eq_some_iff,Prod.mk.injEq] at hs;obtain ⟨_,_,_,h⟩:=hs;rw [h]
   | r=>rw [kind_r hk hnc hs]
   | a=>
     obtain ⟨r',hr'⟩:=hp.dest (makes_a hk)
     rw [hr'] at hs
     obtain ⟨b,e1,_⟩:=kind_a hk hs
     rw [e1];simp
   | w=>
     cases hm:makes i.op with
     | true=>
       obtain ⟨r',hr'⟩:=hp.dest hm
       rw [hr'] at hs
       exact kind_w_len hk hs
     | false=>exact kind_w_len' hk hm hs
   | n=>
     obtain ⟨r',hr'⟩:=hp.dest (makes_n hk)
     rw [hr'] at hs
     exact kind_n_len hk hs
   | c=>exact absurd (kind_c hk) (fun ⟨_,_,_,e⟩=>hnc _ _ _ e)
   | s=>
     obtain ⟨r',hr'⟩:=hp.home (kind_isS hk)
     rw [hr'] at hs
     obtain ⟨b,e1,_⟩:=kind_s hk hs
     rw [e1];simp
  exact ⟨by omega,fun _=>this⟩
theorem body_len (hC:CallOk0 C) {i:zIn} (hp:Planned i) {ρ:Operand→Value} {H H':zH} {v:Value} (hl:lim≤H.length) (h:zBv C lim base i ρ H=some (v,H')):H.length≤H'.length:=by
 unfold zBv at h
 split at h
 case h_2=>cases h
 rename_i v1 X h1
 cases h
 have:=(step_len hC hp (by rw [zMl];exact hl) h1).1
 rw [zMl] at this
 rw [zUl];exact this
theorem body_masked (hC:CallOk0 C) {i:zIn} (hp:Planned i) {r:Nat} (hr:r∈i.mask) (ρ:Operand→Value) (H:zH) (b:Blk) (hl:lim≤H.length) (hlt:base+r<H.length) :
  zBv C lim base i ρ (H.set (base+r) b)=(zBv C lim base i ρ H).map fun p=>(p.1,p.2.set (base+r) b):=by
 unfold zBv
 rw [mask_set base i.mask H hr b]
 cases hs:stepOp C lim (i.dest.map (base+·)) i.op ρ (zMh base i.mask H) with
 | none=>rfl
 | some p=>
   obtain ⟨v,X⟩:=p
   simp only [Option.map_some]
   have hX:=(step_len hC hp (by rw [zMl];exact hl) hs).1
   rw [zMl] at hX
   rw [unmask_set' base i.mask H X hr b hlt hX]
theorem body_keeps (hC:CallOk0 C) {i:zIn} (hp:Planned i) {r:Nat} (hr:r∈i.mask) {ρ:Operand→Value} {H H':zH} {v:Value} (hl:lim≤H.length) (hlt:base+r<H.length) (h:zBv C lim base i ρ H=some (v,H')):zG H' (base+r)=zG H (base+r):=by
 have hlen:=body_len hC hp hl h
 unfold zBv at h
 split at h
 case h_2=>cases h
 rename_i v1 X h1
 cases h
 rw [zUl] at hlen
 have:=unmask_in base H i.mask X ⟨r,hr,rfl⟩ (by omega)
 unfold zG
 rw [List.getD_eq_getElem?_getD,this]
 rfl
structure Sep (x y:zIn):Prop where
 apart:apartA x y=true
 calm:AM.calm x.op y.op=true
 maskY:(kind y.op=.r∨kind y.op=.w∨kind y.op=.n∨kind y.op=.c)→∀r,x.dest=some r→r∈y.mask
 maskX:(kind x.op=.r∨kind x.op=.w∨kind x.op=.n∨kind x.op=.c)→∀r,y.dest=some r→r∈x.mask
 dests:∀r,x.dest=some r→y.dest≠some r
theorem looks_op {i:zIn} {t:Nat} (h:Operand.tmp t∈i.op.operands):t∈i.looks:=by
 unfold zIn.looks
 exact List.mem_append_left _ (List.mem_filterMap.2 ⟨.tmp t,h,rfl⟩)
theorem looks_guard {i:zIn} {t:Nat} {b:Bool} (h:i.guard=some (t,b)):t∈i.looks:=by
 unfold zIn.looks
 rw [h]
 exact List.mem_append_right _ (by simp)
theorem stepOp_congr {o:AOp} {dest:Option Nat} {ρ ρ':Operand→Value} {H:zH} (h:∀x∈o.operands,ρ x=ρ' x):stepOp C lim dest o ρ H=stepOp C lim dest o ρ' H:=by
 by_cases hc:∃mp f args,o=.call mp f args
 ·obtain ⟨mp,f,args,rfl⟩:=hc
  simp only [AOp.operands] at h
  simp only [stepOp,h f (by simp),List.map_congr_left fun y hy=>h y (List.mem_cons_of_mem _ hy)]
 ·have hnc:∀mp f args,o≠.call mp f args:=fun mp f args e=>hc ⟨mp,f,args,e⟩
  rw [zSp hnc,zSp hnc]
  exact aOp_congr h
theorem insVal_upd {b:Option Nat} {i:zIn} {fr:Nat→Value} {H:zH} {d:Nat} {v:Value} (h:d∉i.looks):insVal C N lim b i (upd fr d v) H=insVal C N lim b i fr H:=by
 have hw:wantedA N (upd fr d v) i.guard=wantedA N fr i.guard:=by
  cases hg:i.guard with
  | none=>rfl
  | some g=>
    obtain ⟨t,b⟩:=g
    have:t≠d:=fun e=>h (e▸looks_guard hg)
    simp [wantedA,upd,this]
 have he:∀x∈i.op.operands,ev (upd fr d v) x=ev fr x:=fun x hx=>by
  cases x with
  | tmp t=>
    have:t≠d:=fun e=>h (e▸looks_op hx)
    simp [ev,upd,this]
  | _=>rfl
 unfold insVal
 rw [hw]
 cases b with
 | none=>simp only [stepOp_congr (C:=C) (lim:=lim) he]
 | some b=>simp only [stepOp_congr (C:=C) (lim:=lim) he]
theorem insVal_put {b:Option Nat} {i:zIn} {fr fr':Nat→Value} {H:zH} {dst:Option Nat} {v:Value} (hp:putD N fr dst v=some fr') (h:∀d,dst=some d→d∉i.looks):insVal C N lim b i fr' H=insVal C N lim b i fr H:=by
 cases dst with
 | none=>cases hp;rfl
 | some d=>
   simp only [putD] at hp
   split at hp
   ·cases hp;exact insVal_upd (h d rfl)
   ·cases hp
theorem put_comm {fr fr1 fr2:Nat→Value} {x y:Option Nat} {v u:Value} (h1:putD N fr x v=some fr1) (h2:putD N fr1 y u=some fr2) (hne:∀d,x=some d→y≠some d) :
  ∃fr1',putD N fr y u=some fr1'∧putD N fr1' x v=some fr2:=by
 cases x with
 | none=>cases h1;exact ⟨fr2,h2,rfl⟩
 | some d=>
   cases y with
   | none=>cases h2;exact ⟨fr,rfl,h1⟩
   | some e=>
     simp only [putD] at h1 h2
     split at h1
     case isFalse=>cases h1
     rename_i hd
     split at h2
     case isFalse=>cases h2
     rename_i he
     cases h1;cases h2
     refine ⟨upd fr e u,by simp [putD,he], ?_⟩
     have hde:d≠e:=fun h=>hne d rfl (by rw [h])
     simp only [putD,hd,if_true,Option.some.injEq]
     funext t
     simp only [upd]
     by_cases h1:t=d
     ·subst h1;simp [hde]
     ·simp [h1]
theorem hget_is {H:zH} {i:Nat} {b:Blk} (h:zG H i=b) (hb:b≠.dead):H[i]? = some b:=by
 unfold zG at h
 rw [List.getD_eq_getElem?_getD] at h
 cases hi:H[i]? with
 | none=>rw [hi] at h;simp at h;exact absurd h.symm hb
 | some x=>rw [hi] at h;simp at h;rw [h]
theorem read_more {o:AOp} (hr:isRead o=true) {lim:Nat} {dest:Option Nat} {ρ:Operand→Value} {H H2:zH} {v:Value} (hk:∀(j:Nat) b,H[j]? = some b→H2[j]? = some b) (h:aOp lim dest o ρ H=some (v,H)):aOp lim dest o ρ H2=some (v,H2):=by
 have hg:∀{j:Nat} {b:Blk},b≠.dead→zG H j=b→zG H2 j=b:=fun {j b} hb h=>by
  have:=hk j _ (hget_is h hb)
  unfold zG;rw [List.getD_eq_getElem?_getD,this];rfl
 have h1:∀{p:Addr} {z:Value},AM.loadCell H p=some z→AM.loadCell H2 p=some z:=fun {p z} hz=>by
  unfold AM.loadCell at hz⊢
  split at hz
  ·rename_i hb;rw [hg (by intro e;cases e) hb];exact hz
  ·cases hz
 have hN:∀{p:Addr} {n:Nat} {z:List Value},AM.loadCells H p n=some z→AM.loadCells H2 p n=some z:=fun {p n z} hz=>by
  unfold AM.loadCells at hz⊢
  split at hz
  ·rename_i hb;rw [hg (by intro e;cases e) hb];exact hz
  ·cases hz
 have hM:∀{m:Value} {es:List (Value×Value)},mapEntries H m=some es→mapEntries H2 m=some es:=fun {m es} hz=>by
  unfold mapEntries at hz⊢
  split at hz
  ·exact hz
  ·split at hz
   ·rename_i hb;rw [hg (by intro e;cases e) hb];exact hz
   ·cases hz
  ·cases hz
 cases o<;>simp [isRead] at hr<;>simp only [aOp] at h⊢
 case load1=>
  split at h
  ·simp only [Option.map_eq_some_iff,Prod.mk.injEq] at h
   obtain ⟨z,hz,rfl,_⟩:=h
   rw [h1 hz];rfl
  ·cases h
 case loadN=>
  split at h
  ·simp only [Option.map_eq_some_iff,Prod.mk.injEq] at h
   obtain ⟨z,hz,rfl,_⟩:=h
   rw [hN hz];rfl
  ·cases h
 case lenMap=>
  simp only [Option.map_eq_some_iff,Prod.mk.injEq] at h
  obtain ⟨z,hz,rfl,_⟩:=h
  rw [hM hz];rfl
 case lookup=>
  split at h
  ·rename_i hz
   rw [hM hz]
   simp only
   split at h
   ·rename_i hc
    rw [if_pos hc]
    split at h<;>cases h<;>rfl
   ·cases h
  ·cases h
 case b2s=>
  split at h
  ·split at h
   ·rename_i hc;cases h;rw [if_pos hc]
   ·cases h
  ·split at h
   ·rename_i hz
    rw [hN hz]
    simp only
    split at h
    ·cases h;rfl
    ·cases h
   ·cases h
  ·cases h
theorem load_cells {o:AOp} (hr:isLoad o=true) {lim:Nat} {dest:Option Nat} {ρ:Operand→Value} {A B:zH} {v:Value} (hg:∀{j:Nat} {ro:Bool} {c:List Value},zG A j=.cells ro c→zG B j=.cells ro c) (h:aOp lim dest o ρ A=some (v,A)):aOp lim dest o ρ B=some (v,B):=by
 cases o<;>simp [isLoad] at hr<;>simp only [aOp] at h⊢
 case load1=>
  split at h
  ·rename_i p hp
   simp only [Option.map_eq_some_iff,Prod.mk.injEq] at h
   obtain ⟨z,hz,rfl,_⟩:=h
   have:AM.loadCell B p=some z:=by
    unfold AM.loadCell at hz⊢
    split at hz
    ·rename_i hb;rw [hg hb];exact hz
    ·cases hz
   rw [this];rfl
  ·cases h
 case loadN nn oa=>
  split at h
  ·rename_i p hp
   simp only [Option.map_eq_some_iff,Prod.mk.injEq] at h
   obtain ⟨z,hz,rfl,_⟩:=h
   have:AM.loadCells B p nn=some z:=by
    unfold AM.loadCells at hz⊢
    split at hz
    ·rename_i hb;rw [hg hb];exact hz
    ·cases hz
   rw [this];rfl
  ·cases h
theorem loadR_kept {o:AOp} (hr:isLoadR o=true) {lim:Nat} {dest:Option Nat} {ρ:Operand→Value} {A B:zH} {v:Value} (hg:∀{j:Nat},isRecB (zG A j)=true→zG B j=zG A j) (h:aOp lim dest o ρ A=some (v,A)):aOp lim dest o ρ B=some (v,B):=by
 cases o<;>simp [isLoadR] at hr
 rename_i n oa
 simp only [aOp] at h⊢
 split at h
 ·rename_i p hp
  split at h
  case isFalse=>cases h
  rename_i hb
  have e:=hg hb
  simp only [Option.map_eq_some_iff,Prod.mk.injEq] at h
  obtain ⟨z,hz,rfl,_⟩:=h
  have:AM.loadX n B p=some z:=by
   unfold AM.loadX AM.loadCell AM.loadCells at hz⊢
   rw [e];exact hz
  rw [e,if_pos hb,this];rfl
 ·cases h
theorem storeN_kept {m:Nat} {p y:Operand} {lim:Nat} {dest:Option Nat} {ρ:Operand→Value} {A B:zH} {v:Value} (h:aOp lim dest (.storeN m p y) ρ A=some (v,B)):∀{j:Nat},isRecB (zG A j)=true→zG B j=zG A j:=by
 intro j hj
 simp only [aOp] at h
 split at h
 case h_2=>cases h
 rename_i a ha
 split at h
 case isFalse=>cases h
 rename_i hc
 simp only [Option.map_eq_some_iff,Prod.mk.injEq] at h
 obtain ⟨B',hs,_,rfl⟩:=h
 have hne:j≠a.block:=fun e=>by rw [e,hc.1] at hj;cases hj
 unfold storeAt at hs
 split at hs
 ·split at hs
  ·cases hs
   exact hget_setn hne
  ·cases hs
 ·cases hs
theorem isO_some {a b:AOp} (h:isO a b=true):∃n x t m p y,a=.loadO n x (.tmp t)∧b=.storeO m p y (.tmp t):=by
 unfold isO at h
 split at h
 ·rename_i n x s m p y t
  rw [beq_iff_eq] at h
  subst h
  exact ⟨_,_,_,_,_,_,rfl,rfl⟩
 ·cases h
theorem loadO_kept {n:Option Nat} {x b:Operand} {lim:Nat} {dest:Option Nat} {ρ:Operand→Value} {A B:zH} {v:Value} (hg:∀q,ρ b=.pointer (some q)→∀{j:Nat} {ro:Bool} {c:List Value},j≠q.block→zG A j=.cells ro c→zG B j=.cells ro c) (h:aOp lim dest (.loadO n x b) ρ A=some (v,A)):aOp lim dest (.loadO n x b) ρ B=some (v,B):=by
 simp only [aOp] at h⊢
 split at h
 case h_2=>cases h
 rename_i p q hp hq
 split at h
 case isFalse=>cases h
 rename_i hne
 simp only [Option.map_eq_some_iff,Prod.mk.injEq] at h
 obtain ⟨z,hz,rfl,_⟩:=h
 have:AM.loadX n B p=some z:=by
  unfold AM.loadX AM.loadCell AM.loadCells at hz⊢
  cases hc:zG A p.block with
  | cells ro c=>
    have e:=hg q hq hne hc
    rw [hc] at hz
    rw [e];exact hz
  | _=>rw [hc] at hz;cases n<;>simp at hz
 rw [if_pos hne,this];rfl
theorem storeO_kept {m:Nat} {p y b:Operand} {lim:Nat} {dest:Option Nat} {ρ:Operand→Value} {A B:zH} {v:Value} (h:aOp lim dest (.storeO m p y b) ρ A=some (v,B)):∀q,ρ b=.pointer (some q)→∀{j:Nat},j≠q.block→zG B j=zG A j:=by
 intro q hq j hj
 simp only [aOp] at h
 split at h
 case h_2=>cases h
 rename_i a q' ha hq'
 rw [hq] at hq'
 cases hq'
 split at h
 case isFalse=>cases h
 rename_i hc
 simp only [Option.map_eq_some_iff,Prod.mk.injEq] at h
 obtain ⟨B',hs,_,rfl⟩:=h
 unfold storeAt at hs
 split at hs
 ·split at hs
  ·cases hs
   exact hget_setn (by rw [hc.1];exact hj)
  ·cases hs
 ·cases hs
theorem intsOk_self:∀{ks:List IntKind} {xs:List Value},intsOk ks xs=true→intsEq xs xs=some true
 | [],[],_=>rfl
 | [],_::_,h=>by simp [intsOk] at h
 | k::ks,[],h=>by simp [intsOk] at h
 | k::ks,.int k' n::xs,h=>by
   simp only [intsOk,Bool.and_eq_true] at h
   simp [intsEq,intsOk_self h.2]
theorem keyEq_str {b:ByteArray}:keyEq (.string b) (.string b)=some true:=by
 simp only [keyEq,Option.some.injEq]
 rw [beq_toListBytes,ByteArray.toList_eq]
 exact beq_self_eq_true _
theorem keyOk_self {kk:KK} {k:Value} (h:keyOk kk k=true):keyEq k k=some true:=by
 unfold keyOk at h
 split at h
 ·simp [keyEq]
 ·exact keyEq_str
 ·simp [keyEq]
 ·exact intsOk_self h
 ·cases h
theorem hget_setE {X:zH} {j:Nat} {b:Blk} (h:j<X.length):zG (X.set j b) j=b:=by simp [zG,h]
theorem isE_some {a b:AOp} (h:isE a b=true):∃kk k n x y kk',a=.lookup kk (.int k n) false (.tmp x) (.tmp y)∧b=.mapEntry kk' (.int k n) (.tmp x) (.tmp y):=by
 unfold isE at h
 split at h
 ·simp only [Bool.and_eq_true,beq_iff_eq] at h
  obtain ⟨⟨⟨rfl,rfl⟩,rfl⟩,rfl⟩:=h
  exact ⟨_,_,_,_,_,_,rfl,rfl⟩
 ·cases h
theorem findKey_snoc {k z:Value}:∀{es:List (Value×Value)} {i:Nat},AM.findKey k es i=some none→∀{kk:KK},keyOk kk k=true→∃j,AM.findKey k (es++[(k,z)]) i=some (some (j,z))
 | [],i,_,kk,hk=>⟨i,by simp [AM.findKey,keyOk_self hk]⟩
 | (a,b)::es,i,h,kk,hk=>by
   rw [List.cons_append]
   unfold AM.findKey at h⊢
   split at h
   ·cases h
   ·rename_i e
    exact findKey_snoc h hk
   ·cases h
theorem lookup_kept {kk kk':KK} {k:IntKind} {n:Int} {x y:Nat} {lim lim':Nat} {dest dest':Option Nat} {ρ:Operand→Value} {A A' B B':zH} {v u:Value}
  (h:aOp lim dest (.lookup kk (.int k n) false (.tmp x) (.tmp y)) ρ A=some (v,A)) (he:aOp lim' dest' (.mapEntry kk' (.int k n) (.tmp x) (.tmp y)) ρ B=some (u,B'))
  {G:zH} (hA:∀r es,zG A r=.map es→zG G r=.map es) (hB:∀r es,zG B r=.map es→zG G r=.map es) (hAB:∀r es0 es es',zG A r=.map es0→zG B r=.map es→zG B' r=.map es'→zG A' r=.map es'):aOp lim dest (.lookup kk (.int k n) false (.tmp x) (.tmp y)) ρ A'=some (v,A'):=by
 simp only [aOp] at h he⊢
 split at he
 case h_2=>cases he
 rename_i r hr
 split at he
 case h_2=>cases he
 rename_i es hb
 split at he
 case isFalse=>cases he
 rename_i hc
 obtain ⟨es0,h0⟩:∃es0,mapEntries A (ρ (.tmp x))=some es0:=by
  cases hm:mapEntries A (ρ (.tmp x)) with
  | none=>rw [hm] at h;cases h
  | some es0=>exact ⟨es0,rfl⟩
 have ha0:zG A r=.map es0:=by
  rw [hr] at h0
  simp only [mapEntries] at h0
  split at h0
  ·rename_i q;cases h0;exact q
  ·cases h0
 obtain rfl:es0=es:=by
  have h1:=hA r es0 ha0
  rw [hB r es hb] at h1
  cases h1;rfl
 rw [h0] at h
 replace h:(if keyOk kk (ρ (.tmp y))=true then _ else none)=_:=h
 split at h
 case isFalse=>cases h
 rename_i hko
 split at he
 ·rename_i i w hf
  cases he
  rw [hf] at h
  have hA':mapEntries A' (ρ (.tmp x))=some es0:=by rw [hr];simp [mapEntries,hAB r es0 es0 es0 ha0 hb hb]
  rw [hA']
  simp only [hko,if_true,hf]
  cases h;rfl
 ·rename_i hf
  cases he
  rw [hf] at h
  have hlt:r<B.length:=(List.getElem?_eq_some_iff.1 (hget_is hb (by intro e;cases e))).1
  have hA':mapEntries A' (ρ (.tmp x))=some (es0++[(ρ (.tmp y),.int k n)]):=by
   rw [hr];simp [mapEntries,hAB r es0 es0 _ ha0 hb (hget_setE hlt)]
  obtain ⟨j,hj⟩:=findKey_snoc (z:=.int k n) hf hko
  rw [hA']
  simp only [hko,if_true,hj]
  cases h;rfl
 ·cases he
theorem vals_swap (hC:CallOk0 C) {x y:zIn} (hx:Planned x) (hy:Planned y) (hs:Sep x y) {fr:Nat→Value} {H H1 H2:zH} {v u:Value} (hl:lim≤H.length) (hlt:∀r,x.dest=some r∨y.dest=some r→base+r<H.length) (h1:insVal C N lim (some base) x fr H=some (v,H1)) (h2:insVal C N lim (some base) y fr H1=some (u,H2)) :
  ∃H1',insVal C N lim (some base) y fr H=some (u,H1')∧insVal C N lim (some base) x fr H1'=some (v,H2):=by
 rw [insVal_some] at h1 h2
 cases gx:wantedA N fr x.guard with
 | none=>rw [gx] at h1;cases h1
 | some wx=>
 cases gy:wantedA N fr y.guard with
 | none=>rw [gy] at h2;cases h2
 | some wy=>
 rw [gx] at h1
 rw [gy] at h2
 cases wx with
 | false=>cases h1;exact ⟨H2,by rw [insVal_some,gy];exact h2,by rw [insVal_some,gx]⟩
 | true=>
 cases wy with
 | false=>cases h2;exact ⟨H,by rw [insVal_some,gy],by rw [insVal_some,gx];exact h1⟩
 | true=>
 simp only at h1 h2
 suffices hh:∃H1',zBv C lim base y (ev fr) H=some (u,H1')∧zBv C lim base x (ev fr) H1'=some (v,H2) by
  obtain ⟨H1',e1,e2⟩:=hh
  exact ⟨H1',by rw [insVal_some,gy];exact e1,by rw [insVal_some,gx];exact e2⟩
 have pcase:∀{i:zIn} (hp:Planned i) (hk:kind i.op=.p) {A B:zH} {z:Value},zBv C lim base i (ev fr) A=some (z,B)→B=A∧∀D,zBv C lim base i (ev fr) D=some (z,D):=by
  intro i hp hk A B z h
  rw [body_p hp hk] at h
  cases hg:(aOp lim (i.dest.map (base+·)) i.op (ev fr) []).map (·.1) with
  | none=>rw [hg] at h;cases h
  | some c=>rw [hg] at h;cases h;exact ⟨rfl,fun D=>by rw [body_p hp hk,hg];rfl⟩
 by_cases kxp:kind x.op=.p
 ·obtain ⟨rfl,hall⟩:=pcase hx kxp h1
  exact ⟨H2,h2,hall H2⟩
 by_cases kyp:kind y.op=.p
 ·obtain ⟨rfl,hall⟩:=pcase hy kyp h2
  exact ⟨H,hall H,h1⟩
 by_cases hE:isE x.op y.op=true
 ·
  obtain ⟨kk,k,n,a,b,kk',ex,ey⟩:=isE_some hE
  have kx:kind x.op=.r:=by rw [ex];rfl
  have ky:kind y.op=.w:=by rw [ey];rfl
  have hxc:∀mp f args,x.op≠.call mp f args:=fun mp f args e=>by rw [ex] at e;cases e
  have hyc:∀mp f args,y.op≠.call mp f args:=fun mp f args e=>by rw [ey] at e;cases e
  have e1:=body_r hC kx h1
  subst e1
  refine ⟨H2,h2, ?_⟩
  unfold zBv at h1 h2⊢
  rw [zSp hxc] at h1⊢
  rw [zSp hyc] at h2
  split at h1
  case h_2=>cases h1
  rename_i v1 Hm hm
  simp only [Option.some.injEq,Prod.mk.injEq] at h1
  obtain ⟨rfl,_⟩:=h1
  have:=kind_r kx hxc hm
  subst this
  split at h2
  case h_2=>cases h2
  rename_i v2 Hn hn
  simp only [Option.some.injEq,Prod.mk.injEq] at h2
  obtain ⟨rfl,rfl⟩:=h2
  rw [ex] at hm⊢
  rw [ey] at hn
  have hmap:∀(M:List Nat) (G:zH) r es,zG (zMh base M G) r=.map es→(∀i∈M,base+i≠r)∧zG G r=.map es:=fun M G r es hj=>by
   have hjl:r<G.length:=by
    have:=(List.getElem?_eq_some_iff.1 (hget_is hj (by intro e;cases e))).1
    rwa [zMl] at this
   by_cases hmm:∃i∈M,base+i=r
   ·have:=mask_in base M _ hmm hjl
    unfold zG at hj
    rw [List.getD_eq_getElem?_getD,this] at hj
    cases hj
   ·have hm':∀i∈M,base+i≠r:=fun i hi e=>hmm ⟨i,hi,e⟩
    refine ⟨hm', ?_⟩
    have e1:zG (zMh base M G) r=zG G r:=by
     unfold zG;rw [List.getD_eq_getElem?_getD,mask_out base M _ hm',←List.getD_eq_getElem?_getD]
    rw [←e1];exact hj
  have key:=lookup_kept (A':=zMh base x.mask (zUm base y.mask H1 Hn)) hm hn (fun r es h=>(hmap _ _ r es h).2) (fun r es h=>(hmap _ _ r es h).2) fun r es0 es es' q1 q2 q3=>by
   have m1:=(hmap _ _ r es0 q1).1
   have m2:=(hmap _ _ r es q2).1
   have e2:zG (zMh base x.mask (zUm base y.mask H1 Hn)) r=zG (zUm base y.mask H1 Hn) r:=by
    unfold zG;rw [List.getD_eq_getElem?_getD,mask_out base x.mask _ m1,←List.getD_eq_getElem?_getD]
   rw [e2]
   unfold zG at q3⊢
   rw [List.getD_eq_getElem?_getD,unmask_out base H1 y.mask Hn m2,←List.getD_eq_getElem?_getD]
   exact q3
  rw [key]
  simp only [unmask_mask]
 by_cases hR:(isLoadR x.op&&isStoreN y.op)=true
 ·
  obtain ⟨hrd,hmk⟩:=Bool.and_eq_true_iff.1 hR
  have kx:kind x.op=.r:=by cases hx:x.op<;>rw [hx] at hrd<;>simp [isLoadR] at hrd<;>rfl
  have hxc:∀mp f args,x.op≠.call mp f args:=fun mp f args e=>by rw [e] at hrd;simp [isLoadR] at hrd
  have e1:=body_r hC kx h1
  subst e1
  refine ⟨H2,h2, ?_⟩
  have hlen:H1.length≤H2.length:=body_len hC hy hl h2
  have hkeep:∀{j:Nat},isRecB (zG H1 j)=true→zG H2 j=zG H1 j:=fun {j} hj=>by
   obtain ⟨ro,c,hjc⟩:=isRecB_cells hj
   have hjl:j<H1.length:=(List.getElem?_eq_some_iff.1 (hget_is hjc (by intro e;cases e))).1
   unfold zBv at h2
   split at h2
   case h_2=>cases h2
   rename_i v1 Hm hm
   simp only [Option.some.injEq,Prod.mk.injEq] at h2
   obtain ⟨rfl,rfl⟩:=h2
   rw [zUl] at hlen
   by_cases hmm:∃i∈y.mask,base+i=j
   ·have:=unmask_in base H1 y.mask Hm hmm (by omega)
    unfold zG
    rw [List.getD_eq_getElem?_getD,this]
    rfl
   ·have hm':∀i∈y.mask,base+i≠j:=fun i hi e=>hmm ⟨i,hi,e⟩
    have hjm:zG (zMh base y.mask H1) j=zG H1 j:=by
     unfold zG
     rw [List.getD_eq_getElem?_getD,mask_out base y.mask _ hm',←List.getD_eq_getElem?_getD]
    have:=(by
     cases hyo:y.op<;>rw [hyo] at hmk hm<;>simp [isStoreN] at hmk
     rw [zSp (by intro mp f args e;cases e)] at hm
     exact storeN_kept hm (by rw [hjm];exact hj):zG Hm j=zG (zMh base y.mask H1) j)
    rw [hjm] at this
    unfold zG at this⊢
    rw [List.getD_eq_getElem?_getD,unmask_out base H1 y.mask Hm hm',←List.getD_eq_getElem?_getD]
    exact this
  have hmm:∀{j:Nat},isRecB (zG (zMh base x.mask H1) j)=true→zG (zMh base x.mask H2) j=zG (zMh base x.mask H1) j:=fun {j} hj=>by
   obtain ⟨ro,c,hjc⟩:=isRecB_cells hj
   have hjl:j<H1.length:=by
    have:=(List.getElem?_eq_some_iff.1 (hget_is hjc (by intro e;cases e))).1
    rwa [zMl] at this
   by_cases hm:∃i∈x.mask,base+i=j
   ·have:=mask_in base x.mask _ hm hjl
    unfold zG at hjc
    rw [List.getD_eq_getElem?_getD,this] at hjc
    cases hjc
   ·have hm':∀i∈x.mask,base+i≠j:=fun i hi e=>hm ⟨i,hi,e⟩
    have e1:zG (zMh base x.mask H1) j=zG H1 j:=by
     unfold zG;rw [List.getD_eq_getElem?_getD,mask_out base x.mask _ hm',←List.getD_eq_getElem?_getD]
    have e2:zG (zMh base x.mask H2) j=zG H2 j:=by
     unfold zG;rw [List.getD_eq_getElem?_getD,mask_out base x.mask _ hm',←List.getD_eq_getElem?_getD]
    rw [e1] at hj
    rw [e1,e2]
    exact hkeep hj
  unfold zBv at h1⊢
  rw [zSp hxc] at h1⊢
  split at h1
  case h_2=>cases h1
  rename_i v1 Hm hm
  simp only [Option.some.injEq,Prod.mk.injEq] at h1
  obtain ⟨rfl,_⟩:=h1
  have:=kind_r kx hxc hm
  subst this
  rw [loadR_kept hrd hmm hm]
  simp only [unmask_mask]
 have hcalm:((((conflict (kind x.op) (kind y.op)=false∨(isL x.op=true∧isLoad y.op=true))∨(isRead x.op=true∧isMk y.op=true))∨(isLoad x.op=true∧isMaps y.op=true))∨(isLoadR x.op=true∧isRecs y.op=true))∨isO x.op y.op=true:=by
  have:=hs.calm
  simpa [AM.calm,hE,hR] using this
 rcases hcalm with hcalm | hO
 case inr=>
  obtain ⟨n,ox,t,m,op,oy,ex,ey⟩:=isO_some hO
  have kx:kind x.op=.r:=by rw [ex];rfl
  have ky:kind y.op=.w:=by rw [ey];rfl
  have hxc:∀mp f args,x.op≠.call mp f args:=fun mp f args e=>by rw [ex] at e;cases e
  have hyc:∀mp f args,y.op≠.call mp f args:=fun mp f args e=>by rw [ey] at e;cases e
  have e1:=body_r hC kx h1
  subst e1
  refine ⟨H2,h2, ?_⟩
  have hkeep:∀q,ev fr (.tmp t)=.pointer (some q)→∀{j:Nat} {ro:Bool} {c:List Value},j≠q.block→zG H1 j=.cells ro c→zG H2 j=.cells ro c:=fun q hq {j ro c} hjq hj=>by
   have hjl:j<H1.length:=(List.getElem?_eq_some_iff.1 (hget_is hj (by intro e;cases e))).1
   have hlen:H1.length≤H2.length:=body_len hC hy hl h2
   unfold zBv at h2
   rw [zSp hyc] at h2
   split at h2
   case h_2=>cases h2
   rename_i v1 Hm hm
   simp only [Option.some.injEq,Prod.mk.injEq] at h2
   obtain ⟨rfl,rfl⟩:=h2
   rw [zUl] at hlen
   by_cases hmm:∃i∈y.mask,base+i=j
   ·have:=unmask_in base H1 y.mask Hm hmm (by omega)
    unfold zG
    rw [List.getD_eq_getElem?_getD,this]
    exact hj
   ·have hm':∀i∈y.mask,base+i≠j:=fun i hi e=>hmm ⟨i,hi,e⟩
    rw [ey] at hm
    have hk:=storeO_kept hm q hq hjq
    have e2:zG (zMh base y.mask H1) j=zG H1 j:=by
     unfold zG;rw [List.getD_eq_getElem?_getD,mask_out base y.mask _ hm',←List.getD_eq_getElem?_getD]
    rw [e2,hj] at hk
    unfold zG at hk⊢
    rw [List.getD_eq_getElem?_getD,unmask_out base H1 y.mask Hm hm',←List.getD_eq_getElem?_getD]
    exact hk
  have hmm:∀q,ev fr (.tmp t)=.pointer (some q)→∀{j:Nat} {ro:Bool} {c:List Value},j≠q.block→zG (zMh base x.mask H1) j=.cells ro c→zG (zMh base x.mask H2) j=.cells ro c:=fun q hq {j ro c} hjq hj=>by
   have hjl:j<H1.length:=by
    have:=(List.getElem?_eq_some_iff.1 (hget_is hj (by intro e;cases e))).1
    rwa [zMl] at this
   by_cases hm:∃i∈x.mask,base+i=j
   ·have:=mask_in base x.mask _ hm hjl
    unfold zG at hj
    rw [List.getD_eq_getElem?_getD,this] at hj
    cases hj
   ·have hm':∀i∈x.mask,base+i≠j:=fun i hi e=>hm ⟨i,hi,e⟩
    have e1:zG (zMh base x.mask H1) j=zG H1 j:=by
     unfold zG;rw [List.getD_eq_getElem?_getD,mask_out base x.mask _ hm',←List.getD_eq_getElem?_getD]
    have e2:zG (zMh base x.mask H2) j=zG H2 j:=by
     unfold zG;rw [List.getD_eq_getElem?_getD,mask_out base x.mask _ hm',←List.getD_eq_getElem?_getD]
    rw [e1] at hj
    rw [e2]
    exact hkeep q hq hjq hj
  unfold zBv at h1⊢
  rw [zSp hxc] at h1⊢
  split at h1
  case h_2=>cases h1
  rename_i v1 Hm hm
  simp only [Option.some.injEq,Prod.mk.injEq] at h1
  obtain ⟨rfl,_⟩:=h1
  have:=kind_r kx hxc hm
  subst this
  rw [ex] at hm⊢
  rw [loadO_kept hmm hm]
  simp only [unmask_mask]
 rcases hcalm with hcalm | ⟨hrd,hmk⟩
 case inr=>
  have kx:kind x.op=.r:=by cases hx:x.op<;>rw [hx] at hrd<;>simp [isLoadR] at hrd<;>rfl
  have hxc:∀mp f args,x.op≠.call mp f args:=fun mp f args e=>by rw [e] at hrd;simp [isLoadR] at hrd
  have e1:=body_r hC kx h1
  subst e1
  refine ⟨H2,h2, ?_⟩
  have hlen:H1.length≤H2.length:=body_len hC hy hl h2
  have hkeep:∀{j:Nat},isRecB (zG H1 j)=true→zG H2 j=zG H1 j:=fun {j} hj=>by
   obtain ⟨ro,c,hjc⟩:=isRecB_cells hj
   have hjl:j<H1.length:=(List.getElem?_eq_some_iff.1 (hget_is hjc (by intro e;cases e))).1
   unfold zBv at h2
   split at h2
   case h_2=>cases h2
   rename_i v1 Hm hm
   simp only [Option.some.injEq,Prod.mk.injEq] at h2
   obtain ⟨rfl,rfl⟩:=h2
   rw [zUl] at hlen
   by_cases hmm:∃i∈y.mask,base+i=j
   ·have:=unmask_in base H1 y.mask Hm hmm (by omega)
    unfold zG
    rw [List.getD_eq_getElem?_getD,this]
    rfl
   ·have hm':∀i∈y.mask,base+i≠j:=fun i hi e=>hmm ⟨i,hi,e⟩
    have hjm:zG (zMh base y.mask H1) j=zG H1 j:=by
     unfold zG
     rw [List.getD_eq_getElem?_getD,mask_out base y.mask _ hm',←List.getD_eq_getElem?_getD]
    have hck:recsKept (zMh base y.mask H1) Hm=true:=by
     cases hyo:y.op<;>rw [hyo] at hmk hm<;>simp [isRecs] at hmk
     rename_i mp f args
     cases mp<;>simp at hmk
     simp only [stepOp] at hm
     split at hm
     case h_2=>cases hm
     exact finM_recs hm
    have:=recsKept_get hck (by rw [hjm];exact hj)
    rw [hjm] at this
    unfold zG at this⊢
    rw [List.getD_eq_getElem?_getD,unmask_out base H1 y.mask Hm hm',←List.getD_eq_getElem?_getD]
    exact this
  have hmm:∀{j:Nat},isRecB (zG (zMh base x.mask H1) j)=true→zG (zMh base x.mask H2) j=zG (zMh base x.mask H1) j:=fun {j} hj=>by
   obtain ⟨ro,c,hjc⟩:=isRecB_cells hj
   have hjl:j<H1.length:=by
    have:=(List.getElem?_eq_some_iff.1 (hget_is hjc (by intro e;cases e))).1
    rwa [zMl] at this
   by_cases hm:∃i∈x.mask,base+i=j
   ·have:=mask_in base x.mask _ hm hjl
    unfold zG at hjc
    rw [List.getD_eq_getElem?_getD,this] at hjc
    cases hjc
   ·have hm':∀i∈x.mask,base+i≠j:=fun i hi e=>hm ⟨i,hi,e⟩
    have e1:zG (zMh base x.mask H1) j=zG H1 j:=by
     unfold zG;rw [List.getD_eq_getElem?_getD,mask_out base x.mask _ hm',←List.getD_eq_getElem?_getD]
    have e2:zG (zMh base x.mask H2) j=zG H2 j:=by
     unfold zG;rw [List.getD_eq_getElem?_getD,mask_out base x.mask _ hm',←List.getD_eq_getElem?_getD]
    rw [e1] at hj
    rw [e1,e2]
    exact hkeep hj
  unfold zBv at h1⊢
  rw [zSp hxc] at h1⊢
  split at h1
  case h_2=>cases h1
  rename_i v1 Hm hm
  simp only [Option.some.injEq,Prod.mk.injEq] at h1
  obtain ⟨rfl,_⟩:=h1
  have:=kind_r kx hxc hm
  subst this
  rw [loadR_kept hrd hmm hm]
  simp only [unmask_mask]
 rcases hcalm with hcalm | ⟨hrd,hmk⟩
 case inr=>
  have kx:kind x.op=.r:=by cases hx:x.op<;>rw [hx] at hrd<;>simp [isLoad] at hrd<;>rfl
  have hxc:∀mp f args,x.op≠.call mp f args:=fun mp f args e=>by rw [e] at hrd;simp [isLoad] at hrd
  have e1:=body_r hC kx h1
  subst e1
  refine ⟨H2,h2, ?_⟩
  have hlen:H1.length≤H2.length:=body_len hC hy hl h2
  have hkeep:∀{j:Nat} {ro:Bool} {c:List Value},zG H1 j=.cells ro c→zG H2 j=.cells ro c:=fun {j ro c} hj=>by
   have hjl:j<H1.length:=(List.getElem?_eq_some_iff.1 (hget_is hj (by intro e;cases e))).1
   unfold zBv at h2
   split at h2
   case h_2=>cases h2
   rename_i v1 Hm hm
   simp only [Option.some.injEq,Prod.mk.injEq] at h2
   obtain ⟨rfl,rfl⟩:=h2
   rw [zUl] at hlen
   by_cases hmm:∃i∈y.mask,base+i=j
   ·have:=unmask_in base H1 y.mask Hm hmm (by omega)
    unfold zG
    rw [List.getD_eq_getElem?_getD,this]
    exact hj
   ·have hm':∀i∈y.mask,base+i≠j:=fun i hi e=>hmm ⟨i,hi,e⟩
    have hjm:zG (zMh base y.mask H1) j=.cells ro c:=by
     unfold zG
     rw [List.getD_eq_getElem?_getD,mask_out base y.mask _ hm',←List.getD_eq_getElem?_getD]
     exact hj
    have hck:cellsKept (zMh base y.mask H1) Hm=true:=by
     cases hyo:y.op<;>rw [hyo] at hmk hm<;>simp [isMaps] at hmk
     rename_i mp f args
     cases mp<;>simp at hmk
     simp only [stepOp] at hm
     split at hm
     case h_2=>cases hm
     exact (finM_some hm).2 rfl
    have:=cellsKept_get hck hjm
    unfold zG at this⊢
    rw [List.getD_eq_getElem?_getD,unmask_out base H1 y.mask Hm hm',←List.getD_eq_getElem?_getD]
    exact this
  have hmm:∀{j:Nat} {ro:Bool} {c:List Value},zG (zMh base x.mask H1) j=.cells ro c→zG (zMh base x.mask H2) j=.cells ro c:=fun {j ro c} hj=>by
   have hjl:j<H1.length:=by
    have:=(List.getElem?_eq_some_iff.1 (hget_is hj (by intro e;cases e))).1
    rwa [zMl] at this
   by_cases hm:∃i∈x.mask,base+i=j
   ·have:=mask_in base x.mask _ hm hjl
    unfold zG at hj
    rw [List.getD_eq_getElem?_getD,this] at hj
    cases hj
   ·have hm':∀i∈x.mask,base+i≠j:=fun i hi e=>hm ⟨i,hi,e⟩
    have e1:zG (zMh base x.mask H1) j=zG H1 j:=by
     unfold zG;rw [List.getD_eq_getElem?_getD,mask_out base x.mask _ hm',←List.getD_eq_getElem?_getD]
    have e2:zG (zMh base x.mask H2) j=zG H2 j:=by
     unfold zG;rw [List.getD_eq_getElem?_getD,mask_out base x.mask _ hm',←List.getD_eq_getElem?_getD]
    rw [e1] at hj
    rw [e2]
    exact hkeep hj
  unfold zBv at h1⊢
  rw [zSp hxc] at h1⊢
  split at h1
  case h_2=>cases h1
  rename_i v1 Hm hm
  simp only [Option.some.injEq,Prod.mk.injEq] at h1
  obtain ⟨rfl,_⟩:=h1
  have:=kind_r kx hxc hm
  subst this
  rw [load_cells hrd hmm hm]
  simp only [unmask_mask]
 rcases hcalm with hcalm | ⟨hrd,hmk⟩
 case inr=>
  have kx:kind x.op=.r:=by cases hx:x.op<;>rw [hx] at hrd<;>simp [isRead] at hrd<;>rfl
  have hxc:∀mp f args,x.op≠.call mp f args:=fun mp f args e=>by rw [e] at hrd;simp [isRead] at hrd
  have e1:=body_r hC kx h1
  subst e1
  refine ⟨H2,h2, ?_⟩
  have hlen:H1.length≤H2.length:=body_len hC hy hl h2
  have hkeep:∀j,j<H1.length→H2[j]? = H1[j]?:=fun j hj=>by
   unfold zBv at h2
   split at h2
   case h_2=>cases h2
   rename_i v1 Hm hm
   simp only [Option.some.injEq,Prod.mk.injEq] at h2
   obtain ⟨rfl,rfl⟩:=h2
   rw [zUl] at hlen
   have hk:∀j,j<(zMh base y.mask H1).length→Hm[j]? = (zMh base y.mask H1)[j]?:=by
    cases hyo:y.op<;>rw [hyo] at hmk hm<;>simp [isMk] at hmk
    rename_i mp f args
    cases mp<;>simp at hmk
    simp only [stepOp] at hm
    split at hm
    case h_2=>cases hm
    exact hC.keep _ _ _ _ _ _ _ (finM_some hm).1 (Nat.le_refl _)
   by_cases hmm:∃i∈y.mask,base+i=j
   ·rw [unmask_in base H1 y.mask Hm hmm (by omega),hget_lt hj]
   ·have hm':∀i∈y.mask,base+i≠j:=fun i hi e=>hmm ⟨i,hi,e⟩
    rw [unmask_out base H1 y.mask Hm hm',hk j (by rw [zMl];exact hj),mask_out base y.mask _ hm']
  have hmm:∀(j:Nat) b,(zMh base x.mask H1)[j]? = some b→(zMh base x.mask H2)[j]? = some b:=fun j b hj=>by
   have hjl:j<H1.length:=by
    have:=(List.getElem?_eq_some_iff.1 hj).1
    rwa [zMl] at this
   by_cases hm:∃i∈x.mask,base+i=j
   ·rw [mask_in base x.mask _ hm hjl] at hj
    rw [mask_in base x.mask _ hm (by omega)];exact hj
   ·have hm':∀i∈x.mask,base+i≠j:=fun i hi e=>hm ⟨i,hi,e⟩
    rw [mask_out base x.mask _ hm'] at hj⊢
    rw [hkeep j hjl];exact hj
  unfold zBv at h1⊢
  rw [zSp hxc] at h1⊢
  split at h1
  case h_2=>cases h1
  rename_i v1 Hm hm
  simp only [Option.some.injEq,Prod.mk.injEq] at h1
  obtain ⟨rfl,_⟩:=h1
  have:=kind_r kx hxc hm
  subst this
  rw [read_more hrd hmm hm]
  simp only [unmask_mask]
 rcases hcalm with hcalm | ⟨hL,hld⟩
 case inr=>
  obtain ⟨kx,mx,_⟩:=isL_unf hL
  have ky:kind y.op=.r:=by cases hy:y.op<;>rw [hy] at hld<;>simp [isLoad] at hld<;>rfl
  have e2:=body_r hC ky h2
  subst e2
  refine ⟨H, ?_,h1⟩
  obtain ⟨d,hd⟩:=hx.dest mx
  have hdm:=hs.maskY (.inl ky) d hd
  have hk:∀(j:Nat) b,b≠.dead→(zMh base y.mask H2)[j]? = some b→(zMh base y.mask H)[j]? = some b:=by
   intro j b hb hj
   have hlen:H2.length=H.length:=by
    unfold zBv at h1
    rw [zSp (not_call (.inr (.inr kx))),hd] at h1
    simp only [Option.map_some] at h1
    split at h1
    case h_2=>cases h1
    rename_i v1 Hm hm
    cases h1
    rw [zUl,kind_w_len kx hm,zMl]
   have hjl:j<H2.length:=by
    have:=(List.getElem?_eq_some_iff.1 hj).1
    rwa [zMl] at this
   by_cases hm:∃i∈y.mask,base+i=j
   ·rw [mask_in base y.mask H2 hm hjl] at hj
    cases hj;exact absurd rfl hb
   ·have hm':∀i∈y.mask,base+i≠j:=fun i hi e=>hm ⟨i,hi,e⟩
    rw [mask_out base y.mask _ hm'] at hj⊢
    unfold zBv at h1
    rw [zSp (not_call (.inr (.inr kx))),hd] at h1
    simp only [Option.map_some] at h1
    split at h1
    case h_2=>cases h1
    rename_i v1 Hm hmm
    cases h1
    by_cases hxm:∃i∈x.mask,base+i=j
    ·rw [unmask_in base H x.mask Hm hxm (by rwa [zUl] at hjl)] at hj
     rw [←hj,hget_lt (by omega)]
    ·have hxm':∀i∈x.mask,base+i≠j:=fun i hi e=>hxm ⟨i,hi,e⟩
     rw [unmask_out base H x.mask Hm hxm'] at hj
     rcases isL_keeps hL hmm j (fun e=>hm' d hdm e.symm) with h | h
     ·rw [h,mask_out base x.mask _ hxm'] at hj;exact hj
     ·rw [h] at hj;cases hj;exact absurd rfl hb
  have hcell:∀{j:Nat} {ro:Bool} {c:List Value},zG (zMh base y.mask H2) j=.cells ro c→zG (zMh base y.mask H) j=.cells ro c:=fun {j ro c} h=>by
   have:=hk j _ (by intro e;cases e) (hget_is h (by intro e;cases e))
   unfold zG;rw [List.getD_eq_getElem?_getD,this];rfl
  have hnc:∀mp f args,y.op≠.call mp f args:=fun mp f args e=>by rw [e] at hld;simp [isLoad] at hld
  have hval:aOp lim (y.dest.map (base+·)) y.op (ev fr) (zMh base y.mask H)=some (u,zMh base y.mask H):=by
   unfold zBv at h2
   rw [zSp hnc] at h2
   split at h2
   case h_2=>cases h2
   rename_i v1 Hm hm
   simp only [Option.some.injEq,Prod.mk.injEq] at h2
   obtain ⟨rfl,_⟩:=h2
   cases hyo:y.op<;>rw [hyo] at hld hm<;>simp [isLoad] at hld
   ·simp only [aOp] at hm⊢
    split at hm
    ·rename_i p hp
     simp only [Option.map_eq_some_iff,Prod.mk.injEq] at hm
     obtain ⟨z,hz,rfl,_⟩:=hm
     have:AM.loadCell (zMh base y.mask H) p=some z:=by
      unfold AM.loadCell at hz⊢
      split at hz
      ·rename_i hb;rw [hcell hb];exact hz
      ·cases hz
     rw [this];rfl
    ·cases hm
   ·rename_i nn oa
    simp only [aOp] at hm⊢
    split at hm
    ·rename_i p hp
     simp only [Option.map_eq_some_iff,Prod.mk.injEq] at hm
     obtain ⟨z,hz,rfl,_⟩:=hm
     have:AM.loadCells (zMh base y.mask H) p nn=some z:=by
      unfold AM.loadCells at hz⊢
      split at hz
      ·rename_i hb;rw [hcell hb];exact hz
      ·cases hz
     rw [this];rfl
    ·cases hm
  unfold zBv
  rw [zSp hnc,hval]
  simp only [unmask_mask]
 by_cases kxs:kind x.op=.s
 ·obtain ⟨r,hr⟩:=hx.home (kind_isS kxs)
  obtain ⟨b,rfl,hall⟩:=body_s hx kxs hr h1
  by_cases kys:kind y.op=.s
  ·obtain ⟨r',hr'⟩:=hy.home (kind_isS kys)
   obtain ⟨b',rfl,hall'⟩:=body_s hy kys hr' h2
   have hne:r≠r':=fun e=>hs.dests r hr (by rw [hr',e])
   exact ⟨_,hall' H (hget_setn (by omega)).symm,by rw [hall _ (hget_setn (by omega)),List.set_comm _ _ (by omega)]⟩
  by_cases kya:kind y.op=.a
  ·obtain ⟨r',hr'⟩:=hy.dest (makes_a kya)
   obtain ⟨b',rfl,hall'⟩:=body_a hy kya hr' h2
   have hne:r≠r':=fun e=>hs.dests r hr (by rw [hr',e])
   exact ⟨_,hall' H,by rw [hall _ (hget_setn (by omega)),List.set_comm _ _ (by omega)]⟩
  ·have ky:kind y.op=.r∨kind y.op=.w∨kind y.op=.n∨kind y.op=.c:=by
    cases hk:kind y.op<;>simp_all
   rw [body_masked hC hy (hs.maskY ky r hr) _ _ _ hl (hlt r (.inl hr))] at h2
   cases hb:zBv C lim base y (ev fr) H with
   | none=>rw [hb] at h2;cases h2
   | some p=>
     obtain ⟨u',H1'⟩:=p
     rw [hb] at h2
     cases h2
     exact ⟨H1',rfl,hall H1' (body_keeps hC hy (hs.maskY ky r hr) hl (hlt r (.inl hr)) hb)⟩
 by_cases kys:kind y.op=.s
 ·obtain ⟨r,hr⟩:=hy.home (kind_isS kys)
  obtain ⟨b,rfl,hall⟩:=body_s hy kys hr h2
  by_cases kxa:kind x.op=.a
  ·obtain ⟨r',hr'⟩:=hx.dest (makes_a kxa)
   obtain ⟨b',rfl,hall'⟩:=body_a hx kxa hr' h1
   have hne:r'≠r:=fun e=>hs.dests r' hr' (by rw [hr,e])
   exact ⟨_,hall H (hget_setn (by omega)).symm,by rw [hall',List.set_comm _ _ (by omega)]⟩
  ·have kx:kind x.op=.r∨kind x.op=.w∨kind x.op=.n∨kind x.op=.c:=by
    cases hk:kind x.op<;>simp_all
   exact ⟨_,hall H (body_keeps hC hx (hs.maskX kx r hr) hl (hlt r (.inr hr)) h1).symm,by rw [body_masked hC hx (hs.maskX kx r hr) _ _ _ hl (hlt r (.inr hr)),h1];rfl⟩
 by_cases kxa:kind x.op=.a
 ·obtain ⟨r,hr⟩:=hx.dest (makes_a kxa)
  obtain ⟨b,rfl,hall⟩:=body_a hx kxa hr h1
  by_cases kya:kind y.op=.a
  ·obtain ⟨r',hr'⟩:=hy.dest (makes_a kya)
   obtain ⟨b',rfl,hall'⟩:=body_a hy kya hr' h2
   have hne:r≠r':=fun e=>hs.dests r hr (by rw [hr',e])
   exact ⟨_,hall' H,by rw [hall,List.set_comm _ _ (by omega)]⟩
  ·have ky:kind y.op=.r∨kind y.op=.w∨kind y.op=.n∨kind y.op=.c:=by
    cases hk:kind y.op<;>simp_all [conflict]
   rw [body_masked hC hy (hs.maskY ky r hr) _ _ _ hl (hlt r (.inl hr))] at h2
   cases hb:zBv C lim base y (ev fr) H with
   | none=>rw [hb] at h2;cases h2
   | some p=>
     obtain ⟨u',H1'⟩:=p
     rw [hb] at h2
     cases h2
     exact ⟨H1',rfl,hall H1'⟩
 by_cases kya:kind y.op=.a
 ·obtain ⟨r,hr⟩:=hy.dest (makes_a kya)
  obtain ⟨b,rfl,hall⟩:=body_a hy kya hr h2
  have kx:kind x.op=.r∨kind x.op=.w∨kind x.op=.n∨kind x.op=.c:=by
   cases hk:kind x.op<;>simp_all [conflict]
  exact ⟨_,hall H,by rw [body_masked hC hx (hs.maskX kx r hr) _ _ _ hl (hlt r (.inr hr)),h1];rfl⟩
 have two:(kind x.op=.r∨kind x.op=.n)∧(kind y.op=.r∨kind y.op=.n):=by
  cases hk:kind x.op<;>cases hk':kind y.op<;>simp_all [conflict]
 by_cases hnn:kind x.op=.n∨kind y.op=.n
 ·have sx:H1=H∨∃r b,x.dest=some r∧H1=H.set (base+r) b:=by
   rcases two.1 with k | k
   ·exact .inl (body_r hC k h1)
   ·obtain ⟨r,hr,h | ⟨b,h⟩⟩:=body_n hx k h1
    ·exact .inl h
    ·exact .inr ⟨r,b,hr,h⟩
  have kx':kind x.op=.r∨kind x.op=.w∨kind x.op=.n∨kind x.op=.c:=by rcases two.1 with k | k<;>simp [k]
  have ky':kind y.op=.r∨kind y.op=.w∨kind y.op=.n∨kind y.op=.c:=by rcases two.2 with k | k<;>simp [k]
  have sy:∀{A B:zH} {z:Value},zBv C lim base y (ev fr) A=some (z,B)→B=A∨∃r b,y.dest=some r∧B=A.set (base+r) b:=by
   intro A B z h
   rcases two.2 with k | k
   ·exact .inl (body_r hC k h)
   ·obtain ⟨r,hr,h | ⟨b,h⟩⟩:=body_n hy k h
    ·exact .inl h
    ·exact .inr ⟨r,b,hr,h⟩
  have later:∀{u:Value} {K:zH},zBv C lim base y (ev fr) H=some (u,K)→∃K2,zBv C lim base x (ev fr) K=some (v,K2)∧(∀r b,y.dest=some r→K=H.set (base+r) b→K2=H1.set (base+r) b)∧(K=H→K2=H1):=by
   intro u K hK
   rcases sy hK with rfl | ⟨r,b,hr,rfl⟩
   ·refine ⟨H1,h1,fun r b hr hb=>?_,fun _=>rfl⟩
    rcases sx with rfl | ⟨r',b',hr',rfl⟩
    ·exact hb
    ·have hne:r'≠r:=fun e=>hs.dests r' hr' (by rw [hr,e])
     rw [List.set_comm _ _ (by omega),←hb]
   ·refine ⟨H1.set (base+r) b,by rw [body_masked hC hx (hs.maskX kx' r hr) _ _ _ hl (hlt r (.inr hr)),h1];rfl,fun r' b' hr' hb=>?_,fun hb=>?_⟩
    ·rw [hr] at hr';cases hr'
     rcases sx with rfl | ⟨r2,b2,hr2,rfl⟩
     ·exact hb
     ·have hne:r2≠r:=fun e=>hs.dests r2 hr2 (by rw [hr,e])
      rw [List.set_comm _ _ (by omega),List.set_comm _ _ (by omega:base+r2≠base+r),hb]
    ·rcases sx with rfl | ⟨r2,b2,hr2,rfl⟩
     ·exact hb
     ·have hne:r2≠r:=fun e=>hs.dests r2 hr2 (by rw [hr,e])
      rw [List.set_comm _ _ (by omega),hb]
  have onH:∃K,zBv C lim base y (ev fr) H=some (u,K)∧(∀r b,x.dest=some r→H1=H.set (base+r) b→H2=K.set (base+r) b)∧(H1=H→H2=K):=by
   rcases sx with rfl | ⟨r,b,hr,rfl⟩
   ·refine ⟨H2,h2,fun r b hr hb=>?_,fun _=>rfl⟩
    rcases sy h2 with rfl | ⟨r2,b2,hr2,rfl⟩
    ·exact hb
    ·have hne:r≠r2:=fun e=>hs.dests r hr (by rw [hr2,e])
     rw [List.set_comm _ _ (by omega),←hb]
   ·rw [body_masked hC hy (hs.maskY ky' r hr) _ _ _ hl (hlt r (.inl hr))] at h2
    cases hb:zBv C lim base y (ev fr) H with
    | none=>rw [hb] at h2;cases h2
    | some p=>
      obtain ⟨u',K⟩:=p
      rw [hb] at h2
      cases h2
      refine ⟨K,rfl,fun r' b' hr' hb'=>?_,fun hb'=>?_⟩
      ·rw [hr] at hr';cases hr'
       rcases sy hb with rfl | ⟨r2,b2,hr2,rfl⟩
       ·exact hb'
       ·have hne:r≠r2:=fun e=>hs.dests r hr (by rw [hr2,e])
        rw [List.set_comm _ _ (by omega),List.set_comm _ _ (by omega:base+r2≠base+r),hb']
      ·rcases sy hb with rfl | ⟨r2,b2,hr2,rfl⟩
       ·exact hb'
       ·have hne:r≠r2:=fun e=>hs.dests r hr (by rw [hr2,e])
        rw [List.set_comm _ _ (by omega),hb']
  obtain ⟨K,k1,k2,k3⟩:=onH
  obtain ⟨K2,m1,m2,m3⟩:=later k1
  refine ⟨K,k1, ?_⟩
  rw [m1]
  congr 2
  rcases sx with rfl | ⟨r,b,hr,hb⟩
  ·rw [k3 rfl]
   rcases sy k1 with e | ⟨r2,b2,hr2,e⟩
   ·rw [m3 e,e]
   ·rw [m2 r2 b2 hr2 e,e]
  ·rw [k2 r b hr hb]
   rcases sy k1 with e | ⟨r2,b2,hr2,e⟩
   ·rw [m3 e,hb,e]
   ·have hne:r≠r2:=fun e=>hs.dests r hr (by rw [hr2,e])
    rw [m2 r2 b2 hr2 e,hb,e,List.set_comm _ _ (by omega)]
 have kr:kind x.op=.r∧kind y.op=.r:=by
  rcases two with ⟨k1 | k1,k2 | k2⟩
  ·exact ⟨k1,k2⟩
  ·exact absurd (.inr k2) hnn
  ·exact absurd (.inl k1) hnn
  ·exact absurd (.inl k1) hnn
 have e1:=body_r hC kr.1 h1
 subst e1
 have e2:=body_r hC kr.2 h2
 subst e2
 exact ⟨_,h2,h1⟩
theorem ins_swap (hC:CallOk0 C) {x y:zIn} (hx:Planned x) (hy:Planned y) (hs:Sep x y) {fr fr1 fr2:Nat→Value} {H H1 H2:zH} (hl:lim≤H.length) (hlt:∀r,x.dest=some r∨y.dest=some r→base+r<H.length) (h1:insOp C N lim (some base) x fr H=some (fr1,H1)) (h2:insOp C N lim (some base) y fr1 H1=some (fr2,H2)) :
  ∃fr1' H1',insOp C N lim (some base) y fr H=some (fr1',H1')∧insOp C N lim (some base) x fr1' H1'=some (fr2,H2):=by
 have hap:=hs.apart
 unfold apartA at hap
 have a1:∀d,x.dst=some d→d∉y.looks:=fun d e=>by rw [e] at hap;simp at hap;exact hap.1.1
 have a2:∀d,x.dst=some d→y.dst≠some d:=fun d e=>by rw [e] at hap;simp at hap;exact hap.1.2
 have a3:∀d,y.dst=some d→d∉x.looks:=fun d e=>by rw [e] at hap;simp at hap;exact hap.2
 unfold insOp at h1 h2
 cases hv:insVal C N lim (some base) x fr H with
 | none=>rw [hv] at h1;cases h1
 | some p=>
 obtain ⟨v,K1⟩:=p
 rw [hv] at h1
 simp only [Option.map_eq_some_iff,Prod.mk.injEq] at h1
 obtain ⟨f1,hf1,rfl,rfl⟩:=h1
 rw [insVal_put hf1 a1] at h2
 cases hu:insVal C N lim (some base) y fr K1 with
 | none=>rw [hu] at h2;cases h2
 | some p=>
 obtain ⟨u,K2⟩:=p
 rw [hu] at h2
 simp only [Option.map_eq_some_iff,Prod.mk.injEq] at h2
 obtain ⟨f2,hf2,rfl,rfl⟩:=h2
 obtain ⟨K1',e1,e2⟩:=vals_swap hC hx hy hs hl hlt hv hu
 obtain ⟨f1',g1,g2⟩:=put_comm hf1 hf2 a2
 refine ⟨f1',K1',by simp only [insOp,e1,g1];rfl, ?_⟩
 unfold insOp
 rw [insVal_put g1 a3,e2]
 simp [g2]
def dOps (C:CallF) (N lim:Nat) (base:Option Nat):List zIn→(Nat→Value)→zH→Option ((Nat→Value)×zH)
 | [],fr,H=>some (fr,H)
 | i::l,fr,H=>match insOp C N lim base i fr H with
   | some (fr',H')=>dOps C N lim base l fr' H'
   | none=>none
theorem dOps_cons {b:Option Nat} {i:zIn} {l:List zIn} {fr:Nat→Value} {H:zH} {r} (h:dOps C N lim b (i::l) fr H=some r):∃fr' H',insOp C N lim b i fr H=some (fr',H')∧dOps C N lim b l fr' H'=some r:=by
 simp only [dOps] at h
 split at h
 ·rename_i fr' H' h1;exact ⟨fr',H',h1,h⟩
 ·cases h
theorem ins_len (hC:CallOk0 C) {i:zIn} (hp:Planned i) {fr fr':Nat→Value} {H H':zH} (hl:lim≤H.length) (h:insOp C N lim (some base) i fr H=some (fr',H')):H.length≤H'.length:=by
 unfold insOp at h
 cases hv:insVal C N lim (some base) i fr H with
 | none=>rw [hv] at h;cases h
 | some p=>
   obtain ⟨v,K⟩:=p
   rw [hv] at h
   simp only [Option.map_eq_some_iff,Prod.mk.injEq] at h
   obtain ⟨f,hf,rfl,rfl⟩:=h
   rw [insVal_some] at hv
   cases hw:wantedA N fr i.guard with
   | none=>rw [hw] at hv;cases hv
   | some b=>
     rw [hw] at hv
     cases b with
     | false=>cases hv;exact Nat.le_refl _
     | true=>exact body_len hC hp hl hv
theorem bubble (hC:CallOk0 C) {x:zIn} (hx:Planned x) (B:List zIn):∀(A:List zIn) (fr:Nat→Value) (H:zH) (r),lim≤H.length→(∀r,x.dest=some r→base+r<H.length)→(∀a∈A,(Planned a∧Sep a x)∧∀r,a.dest=some r→base+r<H.length)→dOps C N lim (some base) (A++x::B) fr H=some r→
  dOps C N lim (some base) (x::(A++B)) fr H=some r
 | [],fr,H,r,_,_,_,h=>h
 | a::A,fr,H,r,hl,hxd,hA,h=>by
   obtain ⟨fr1,H1,h1,h2⟩:=dOps_cons h
   obtain ⟨⟨pa,sa⟩,da⟩:=hA a List.mem_cons_self
   have hlen:=ins_len hC pa hl h1
   have ih:=bubble hC hx B A fr1 H1 r (by omega) (fun r hr=>by have:=hxd r hr;omega) (fun b hb=>⟨(hA b (List.mem_cons_of_mem _ hb)).1,fun r hr=>by have:=(hA b (List.mem_cons_of_mem _ hb)).2 r hr;omega⟩) h2
   obtain ⟨fr2,H2,h3,h4⟩:=dOps_cons ih
   obtain ⟨fr1',H1',e1,e2⟩:=ins_swap hC pa hx sa hl (fun r hr=>by rcases hr with hr | hr;exact da r hr;exact hxd r hr) h1 h3
   simp only [List.cons_append,dOps,e1,e2]
   exact h4
end
structure Grow (lim:Nat) (H H':zH):Prop where
 new:∀(j:Nat) b,H'[j]? = some b→alive b=true→H[j]? = some b∨(owned b=true∧lim≤j)
 keep:∀j,j<lim→H'[j]? = H[j]?
instance {lim:Nat} {H H':zH}:CoeFun (Grow lim H H') (fun _=>∀(j:Nat) b,H'[j]? = some b→alive b=true→H[j]? = some b∨(owned b=true∧lim≤j)):=⟨Grow.new⟩
theorem Grow.refl (lim:Nat) (H:zH):Grow lim H H:=⟨fun _ _ h _=>.inl h,fun _ _=>rfl⟩
theorem Grow.trans {lim:Nat} {A B C:zH} (h:Grow lim A B) (k:Grow lim B C):Grow lim A C:=⟨fun j b hb ha=>by
 rcases k.new j b hb ha with h1 | h1
 ·exact h.new j b h1 ha
 ·exact .inr h1,fun j hj=>(k.keep j hj).trans (h.keep j hj)⟩
theorem Grow.weaken {lim lim':Nat} {A B:zH} (h:Grow lim' A B) (hl:lim≤lim'):Grow lim A B:=⟨fun j b hb ha=>(h.new j b hb ha).imp id fun h=>⟨h.1,by omega⟩,fun j hj=>h.keep j (by omega)⟩
theorem Grow.set {lim:Nat} {H:zH} {i:Nat} {b:Blk} (hl:lim≤i) (hb:alive b=true→owned b=true):Grow lim H (H.set i b):=⟨fun j c hc ha=>by
 rw [List.getElem?_set] at hc
 split at hc
 ·rename_i e
  split at hc
  ·cases hc;exact .inr ⟨hb ha,e▸hl⟩
  ·cases hc
 ·exact .inl hc,fun j hj=>by rw [List.getElem?_set,if_neg (by omega)]⟩
theorem Grow.app {lim:Nat} {H X:zH} (hl:lim≤H.length) (hX:∀b∈X,alive b=true→owned b=true):Grow lim H (H++X):=⟨fun j c hc ha=>by
 by_cases hj:j<H.length
 ·rw [List.getElem?_append_left hj] at hc;exact .inl hc
 ·rw [List.getElem?_append_right (by omega)] at hc
  exact .inr ⟨hX c (List.mem_of_getElem? hc) ha,by omega⟩,fun j hj=>List.getElem?_append_left (by omega)⟩
theorem Grow.place {lim:Nat} {H:zH} {dest:Option Nat} {b:Blk} (hb:owned b=true) (hd:∀d,dest=some d→lim≤d) (hl:lim≤H.length):Grow lim H (place dest b H).2:=by
 cases dest with
 | some d=>exact Grow.set (hd d rfl) fun _=>hb
 | none=>exact Grow.app hl fun c hc _=>by simp at hc;subst hc;exact hb
theorem Grow.dead {lim:Nat} {H:zH} (hl:lim≤H.length) (n:Nat):Grow lim H (H++List.replicate n .dead):=
 Grow.app hl fun b hb ha=>by rw [(List.mem_replicate.1 hb).2] at ha;simp [alive] at ha
theorem storeAt_grow {lim:Nat} {H H':zH} {a:Addr} {vs:List Value} (h:storeAt lim H a vs=some H'):Grow lim H H':=by
 unfold storeAt at h
 split at h
 ·split at h
  ·rename_i hc;cases h;exact Grow.set hc.1 fun _=>rfl
  ·cases h
 ·cases h
theorem aOp_grow00 {o:AOp} (hL:isL o=false) {lim:Nat} {dest:Option Nat} {ρ:Operand→Value} {H H':zH} {v:Value} (hn:kind o≠.n) (h:aOp lim dest o ρ H=some (v,H')) (hd:∀d,dest=some d→lim≤d) (hl:lim≤H.length):Grow lim H H':=by
 cases hk:kind o with
 | n=>exact absurd hk hn
 | p=>rw [(kind_p hk h).1];exact Grow.refl _ _
 | r=>
   by_cases hc:∃mp f args,o=.call mp f args
   ·obtain ⟨mp,f,args,rfl⟩:=hc;simp [aOp] at h
   ·rw [kind_r hk (fun mp f args e=>hc ⟨mp,f,args,e⟩) h];exact Grow.refl _ _
 | c=>
   cases o<;>simp [kind] at hk
   simp [aOp] at h
 | a=>
   cases o<;>simp [kind] at hk<;>simp only [aOp] at h
   case alloc=>cases h;exact Grow.place (b:=.cells false _) rfl hd hl
   case box=>
    split at h
    case isFalse=>cases h
    cases h;exact Grow.place (b:=.cells false _) rfl hd hl
   case buildSlice=>
    split at h
    case h_2=>cases h
    cases h;exact Grow.place (b:=.cells false _) rfl hd hl
   case makeSlice=>
    split at h
    case h_2=>cases h
    split at h
    case isFalse=>cases h
    cases h;exact Grow.place (b:=.cells false _) rfl hd hl
   case growNil=>
    split at h
    case h_2=>cases h
    split at h
    case isFalse=>cases h
    cases h;exact Grow.place (b:=.cells false _) rfl hd hl
   case makeMap=>
    split at h
    case h_2=>cases h
    cases h;exact Grow.place (b:=.map []) rfl hd hl
   case call mp f args=>split at hk<;>cases hk
 | s=>
   have hs:=kind_isS hk
   cases o<;>simp [isS] at hs
   rename_i n a x
   have h':=aOp_unf h
   simp only [unf,aOp] at h'
   split at h'
   ·split at h'
    ·simp only [Option.map_eq_some_iff,Prod.mk.injEq] at h';obtain ⟨_,h1,_,rfl⟩:=h';exact storeAt_grow h1
    ·cases h'
   ·cases h'
 | w=>
   cases o<;>simp [kind] at hk<;>simp only [aOp] at h
   case store=>
    split at h
    ·split at h
     ·simp only [Option.map_eq_some_iff,Prod.mk.injEq] at h;obtain ⟨_,h1,_,rfl⟩:=h;exact storeAt_grow h1
     ·cases h
    ·cases h
   case storeN=>
    split at h
    ·split at h
     ·simp only [Option.map_eq_some_iff,Prod.mk.injEq] at h;obtain ⟨_,h1,_,rfl⟩:=h;exact storeAt_grow h1
     ·cases h
    ·cases h
   case storeO=>
    split at h
    ·split at h
     ·simp only [Option.map_eq_some_iff,Prod.mk.injEq] at h;obtain ⟨_,h1,_,rfl⟩:=h;exact storeAt_grow h1
     ·cases h
    ·cases h
   case append=>
    unfold zAa at h
    split at h
    case h_2=>cases h
    split at h
    ·cases h
    split at h
    ·cases h;exact Grow.refl _ _
    split at h
    ·split at h
     ·cases h;exact Grow.place (b:=.cells false _) rfl hd hl
     ·cases h
    ·split at h
     ·cases h
     split at h
     ·split at h
      ·split at h
       ·cases h
        exact (Grow.set (b:=.dead) ‹lim≤_› fun h=>by simp [alive] at h).trans (Grow.place (b:=.cells false _) rfl hd (by simpa using hl))
       ·cases h
      ·cases h
     ·split at h
      ·split at h
       ·split at h
        ·rename_i h1;cases h;exact storeAt_grow h1
        ·cases h
       ·cases h;exact Grow.place (b:=.cells false _) rfl hd hl
      ·cases h
   case copy=>
    split at h
    ·split at h
     ·split at h
      ·split at h
       ·cases h;exact Grow.refl _ _
       ·simp only [Option.map_eq_some_iff,Prod.mk.injEq] at h;obtain ⟨_,h1,_,rfl⟩:=h;exact storeAt_grow h1
      ·split at h
       ·cases h;exact Grow.refl _ _
       ·cases h
     ·cases h
    ·cases h
   case mapEntry=>
    split at h
    ·split at h
     ·split at h
      ·rename_i hc
       split at h<;>cases h
       ·exact Grow.refl _ _
       ·exact Grow.set hc.2 fun _=>rfl
      ·cases h
     ·cases h
    ·cases h
   case entryStore=>
    split at h
    ·split at h
     ·split at h
      ·rename_i hc
       cases h
       exact Grow.set hc.2.2 fun _=>rfl
      ·cases h
     ·cases h
    ·cases h
   case mapUpdate=>
    split at h
    ·split at h
     ·split at h
      ·rename_i hc
       split at h<;>cases h
       ·exact Grow.set hc.2 fun _=>rfl
       ·exact Grow.set hc.2 fun _=>rfl
      ·cases h
     ·cases h
    ·cases h
   case clear=>
    split at h
    ·split at h
     ·cases h;exact Grow.refl _ _
     ·simp only [Option.map_eq_some_iff,Prod.mk.injEq] at h;obtain ⟨_,h1,_,rfl⟩:=h;exact storeAt_grow h1
    ·cases h
   case delete=>cases h
   case call mp f args=>split at hk<;>cases hk
   case appendL=>simp [isL] at hL
theorem aOp_grow0 {o:AOp} {lim:Nat} {dest:Option Nat} {ρ:Operand→Value} {H H':zH} {v:Value} (hn:kind o≠.n) (h:aOp lim dest o ρ H=some (v,H')) (hd:∀d,dest=some d→lim≤d) (hl:lim≤H.length):Grow lim H H':=by
 cases hL:isL o with
 | false=>exact aOp_grow00 hL hn h hd hl
 | true=>obtain ⟨_,_,h1,h2,_⟩:=isL_unf hL;exact aOp_grow00 h1 (by rw [h2];simp) (aOp_unf h) hd hl
theorem aOp_grow {o:AOp} {lim:Nat} {dest:Option Nat} {ρ:Operand→Value} {H H':zH} {v:Value} (h:aOp lim dest o ρ H=some (v,H')) (hd:∀d,dest=some d→lim≤d) (hl:lim≤H.length):Grow lim H H':=by
 by_cases hn:kind o=.n
 ·cases o<;>(try (simp [kind] at hn;done))
  ·exact aOp_grow0 (by simp [unf,kind]) (aOp_unf h) hd hl
  ·rename_i mp f as'
   cases mp<;>simp [kind,CM.isPure] at hn
 ·exact aOp_grow0 hn h hd hl
def CallPost (Pg:Prg) (W:Nat→Prop) (lim:Nat) (σ:Sig) (H:zH) (v:Value) (H':zH) (w:World):Ending→World→Prop:=fun e w'=>
 ∃v' σ',e=.returned v'∧zVr σ' v v'∧Inv Pg W lim σ' H' w'∧Stp W w w'∧Sig.le σ σ'∧∀j,σ' j≠σ j→H.length≤j
def roundTmps (r:Loop) (args:Array Value):Array Value:=(r.params.zip args).foldl (fun tmps (t,a)=>tmps.setIfInBounds t a) r.tmps
structure CallOk (Pg:Prg) (C:CallF):Prop extends CallOk0 C where
 fn:∀mp lim g as H v H',C mp lim (.inl g) as H=some (v,H')→∃fn,Pg.P.funcs[g]? = some fn∧fn.body.isSome=true∧(fn.name == "runtime.NumGoroutine")=false
 calls:∀mp lim g as H v H',C mp lim (.inl g) as H=some (v,H')→lim≤H.length→∀W σ w as',Inv Pg W lim σ H w→zLr σ as as'→Calls Pg.P g as'.toArray w (CallPost Pg W lim σ H v H' w)
 rounds:∀mp lim i as H v H',C mp lim (.inr i) as H=some (v,H')→lim≤H.length→∀W σ w as' L,Inv Pg W lim σ H w→zLr σ as as'→σ i=some L→
  ∃r,w.heap[L.blk]? = some (.loop r)∧as'.toArray.size=r.params.size∧RoundIn Fence.wide 0 Pg.P L.blk r.fn (roundTmps r as'.toArray) r.assign r.body w (CallPost Pg W lim σ H v H' w)
 grow:∀mp lim g as H v H',C mp lim g as H=some (v,H')→lim≤H.length→Grow lim H H'
def WF (ro:Option Nat):Fence:={ Fence.wide with round:=ro }
theorem wf_depth {ro:Option Nat}:(WF ro).depth.isSome=true→1≤0:=fun h=>by cases h
theorem callsIn_wf {ro:Option Nat} {n:Nat} {P:Program} {f:FuncId} {args:Array Value} {w:World} {R:Ending→World→Prop} (h:Calls P f args w R):CallsIn (WF ro) n P f args w R:=
 ⟨trivial,(callsIn_wide (n:=n).2 h).2⟩
theorem roundIn_wf {ro:Option Nat} {n m:Nat} {P:Program} {l:Nat} {f:FuncId} {tmps:Array Value} {assign body:Code} {w:World} {R:Ending→World→Prop} (h:RoundIn Fence.wide m P l f tmps assign body w R):RoundIn (WF ro) n P l f tmps assign body w R:=
 ⟨trivial,fun c cs _=>h.2 c cs (room_wide _)⟩
section
variable {P:Program} {pf pureF:FuncId→Bool} {C:CallF} {W:Nat→Prop} {lim:Nat} {σ:Sig} {H H':zH} {w:World} {dest:Option Nat}
def Next' (Pp:Prg) (W:Nat→Prop) (lim:Nat) (σ:Sig) (dest:Option Nat) (H:zH) (w:World) (v:Value) (H':zH) (v':Value) (w':World) (σ':Sig):Prop:=
 zVr σ' v v'∧Inv Pp W lim σ' H' w'∧Stp W w w'∧Sig.le σ σ'∧(∀j,σ' j≠σ j→dest=some j∨H.length≤j)∧H.length≤H'.length∧Grow lim H H'
theorem call_enter {ρ':Operand→Value} {o:Oper} {c:Call} (ho:o.op=.call c) {f:Operand} (hc:c.callee=.value f) {g:FuncId} {fi ca:Array Value} (hf:ρ' f=.func (.func g) fi ca)
  {fn:Func} (h1:P.funcs[g]? = some fn) (h2:fn.body.isSome=true) (h3:(fn.name == "runtime.NumGoroutine")=false) :
  (execOp ρ' o).run P w=.ok (.enter g (fi++c.args.map ρ'++ca)) w:=by
 have hb:fn.body.isNone=false:=by cases h:fn.body<;>simp_all
 have h3':¬(fn.name= "runtime.NumGoroutine"):=by simpa using h3
 simp [execOp,ho,resolve,hc,Deferred.ofValue,hf,invoke,callFunc,h1,h3']
 intro h;rw [h] at h2;cases h2
theorem zVr.yld_left {i:Nat} {fi ca:Array Value} {v':Value} (h:zVr σ (.func (.yield i) fi ca) v'):∃L,σ i=some L∧fi=#[]∧ca=#[]∧v'=.func (.yield L.blk) #[] #[]:=by
 cases h with
 | atom h=>simp [AM.atom] at h
 | yld h=>exact ⟨_,h,rfl,rfl,rfl⟩
theorem call_round {ρ':Operand→Value} {o:Oper} {c:Call} (ho:o.op=.call c) {f:Operand} (hc:c.callee=.value f) {l:Nat} (hf:ρ' f=.func (.yield l) #[] #[])
  {r:Loop} (h1:w.heap[l]? = some (.loop r)) (h2:(c.args.map ρ').size=r.params.size) :
  (execOp ρ' o).run P w=.ok (.round l r.fn (roundTmps r (c.args.map ρ')) r.assign r.body) w:=by
 have:=run_yield (P:=P) h1 h2
 simp [execOp,ho,resolve,hc,Deferred.ofValue,hf,invoke]
 simpa [roundTmps] using this
theorem CM.lim_le (mp:CM) (hl:lim≤H.length):lim≤mp.lim lim H∧mp.lim lim H≤H.length:=by cases mp<;>simp [CM.lim,hl]
theorem Inv.up {Pp:Prg} {lim':Nat} (h:Inv Pp W lim σ H w) (hl:lim≤lim'):Inv Pp W lim' σ H w:=⟨h.toRoot,h.blk,h.inj,fun i b L hb ho hli hL=>h.wr i b L hb ho (by omega) hL,h.dom⟩
theorem Inv.back {Pp:Prg} {lim':Nat} {σ':Sig} {w':World} (hinv:Inv Pp W lim σ H w) (h:Inv Pp W lim' σ' H' w') (hle:Sig.le σ σ') (hg:Grow lim' H H'):Inv Pp W lim σ' H' w':=
 ⟨h.toRoot,h.blk,h.inj,fun i b L hb ho hli hL=>(hg.new i b hb (zAo ho)).elim (fun h1=>by
  obtain ⟨L0,h2,_⟩:=hinv.blk i b h1 (zAo ho)
  have h3:=hle _ _ h2
  rw [hL] at h3;cases h3
  exact hinv.wr i b L h1 ho hli h2) (fun h1=>h.wr i b L hb ho h1.2 hL),h.dom⟩
theorem stepOp_wp' (hC:CallOk (Prg.mk P pf) C) {draw:Bool} {o:Oper} {ao ao0:AOp} (htr:trOp P pureF draw o=some ao0) (hao:ao=ao0∨∃m f as,ao=.call m f as∧ao0=.call .any f as) (hinv:Inv (Prg.mk P pf) W lim σ H w) (hl:lim≤H.length) (hdl:∀d,dest=some d→lim≤d) (hd:∀d,dest=some d→d<H.length∧σ d=none)
  {ρ:Operand→Value} {a:Act} (hρ:∀x,zOo x=true→zVr σ (ρ x) (a.eval x)) {v:Value} (hx:stepOp C lim dest ao ρ H=some (v,H'))
  {K:Act→World→Prop} {Q:Exit→Act→World→Prop} (hK:∀v' w' σ',Next' (Prg.mk P pf) W lim σ dest H w v H' v' w' σ'→K (a.put o.dst v') w') {ro:Option Nat}:o.wpIn (WF ro) 0 P a w K Q:=by
 by_cases hcall:∃mp f args,ao=.call mp f args
 ·obtain ⟨mp,f,args,rfl⟩:=hcall
  obtain ⟨mp0,rfl⟩:∃mp0,ao0=.call mp0 f args:=by
   rcases hao with h | ⟨m',f',as',h,h'⟩
   ·exact ⟨mp,h.symm⟩
   ·cases h;exact ⟨.any,h'⟩
  have hop:∃c,o.op=.call c∧c.callee=.value f∧args=c.args.toList∧∀x∈o.op.operands,zOo x=true:=by
   obtain ⟨dst,op,type,pos,after,guard⟩:=o
   unfold trOp at htr
   split at htr
   ·cases htr
   rename_i hok
   simp only [Bool.not_eq_true,Bool.not_eq_false'] at hok
   have hoks:∀x∈op.operands,zOo x=true:=fun x hx=>okOps (o:=⟨dst,op,type,pos,after,guard⟩) (by simpa using hok) hx
   cases op<;>(try simp only at htr)<;>try (cases htr;done)
   case call c=>
    refine ⟨c,rfl, ?_⟩
    cases hc:c.callee with
    | value f'=>rw [hc] at htr;simp at htr;obtain ⟨_,rfl,rfl⟩:=htr;exact ⟨rfl,rfl,hoks⟩
    | invoke r m=>rw [hc] at htr;simp at htr
    | builtin b=>
      rw [hc] at htr
      exfalso
      cases b<;>(try simp only at htr)<;>(try (cases htr;done))<;>(repeat' (split at htr))<;>first
       | (cases htr;done)
       | (simp only [Option.map_eq_some_iff] at htr;obtain ⟨_,_,htr⟩:=htr;cases htr;done)
       | (exfalso;simp at htr;done)
       | (obtain ⟨_,_,htr⟩:=zOb htr;obtain ⟨_,_,htr⟩:=zOb htr;obtain ⟨_,_,htr⟩:=zOb htr;split at htr<;>cases htr;done)
   all_goals exfalso
   all_goals (repeat' (first | (obtain ⟨_,_,htr⟩:=zOb htr) | split at htr))
   all_goals first
    | (cases htr;done)
    | (simp only [Option.map_eq_some_iff] at htr;obtain ⟨_,_,htr⟩:=htr;cases htr;done)
    | contradiction
  obtain ⟨c,ho,hcal,rfl,hoks⟩:=hop
  simp only [stepOp] at hx
  split at hx
  case h_2=>cases hx
  rename_i g as hcl
  replace hx:=(finM_some hx).1
  obtain ⟨hl1,hl2⟩:=CM.lim_le mp hl
  have hinv':=hinv.up hl1
  generalize mp.lim lim H=lim' at hx hl1 hl2 hinv'
  generalize mp.isPure=mp' at hx
  have hsem:∀{ρ'},o.semAt (WF ro).round ρ'=execOp ρ' o:=fun {ρ'}=>Oper.semAt_eq _ _ _ fun c' e=>by rw [ho] at e;cases e
  refine ⟨fun _ _=>trivial, ?_⟩
  rw [hsem]
  have hfo:zOo f=true:=hoks f (by rw [ho];simp [Op.operands,Call.operands,hcal])
  have hfv:=hρ f hfo
  have hargs:zLr σ (c.args.toList.map ρ) (c.args.map a.eval).toList:=by
   have:(c.args.map a.eval).toList=c.args.toList.map a.eval:=by simp
   rw [this]
   exact lrel_map_rho fun x hx=>hρ x (hoks x (by rw [ho];simp only [Op.operands,Call.operands,hcal];simp at hx⊢;exact .inr hx))
  unfold zCa at hcl
  split at hcl
  case h_3=>cases hcl
  case h_2=>
   rename_i i fi ca hf
   simp only [Option.some.injEq,Prod.mk.injEq] at hcl
   obtain ⟨rfl,rfl⟩:=hcl
   rw [hf] at hfv
   obtain ⟨L,hL,rfl,rfl,hf'⟩:=hfv.yld_left
   simp only [List.nil_append,List.append_nil] at hx
   obtain ⟨r,h1,h2,h3⟩:=hC.rounds _ _ _ _ _ _ _ hx hl2 W σ w _ L hinv' hargs hL
   simp only [Array.toArray_toList] at h2 h3
   rw [call_round (P:=P) ho hcal hf' h1 h2,Oper.uponIn_round]
   refine ⟨wf_depth,roundIn_wf (h3.mono fun en w' hp=>?_)⟩
   obtain ⟨v',σ',rfl,q1,q2,q3,q4,q5⟩:=hp
   exact hK v' w' σ' ⟨q1,hinv.back q2 q4 (hC.grow _ _ _ _ _ _ _ hx hl2),q3,q4,fun j hj=>.inr (q5 j hj),hC.len _ _ _ _ _ _ _ hx hl2,(hC.grow _ _ _ _ _ _ _ hx hl2).weaken hl1⟩
  rename_i g' fi ca hf
  simp only [Option.some.injEq,Prod.mk.injEq] at hcl
  obtain ⟨rfl,rfl⟩:=hcl
  rw [hf] at hfv
  obtain ⟨fi',ca',hf',hfi,hca⟩:=hfv.func_left
  obtain ⟨fn,h1,h2,h3⟩:=hC.fn _ _ _ _ _ _ _ hx
  have hrun:=call_enter (P:=P) (w:=w) ho hcal hf' h1 h2 h3
  have hcalls:=hC.calls _ _ _ _ _ _ _ hx hl2 W σ w (fi'.toList++(c.args.map a.eval).toList++ca'.toList) hinv' ((hfi.append hargs).append hca)
  have e:(fi'.toList++(c.args.map a.eval).toList++ca'.toList).toArray=fi'++c.args.map a.eval++ca':=by
   apply Array.ext';simp
  rw [e] at hcalls
  rw [hrun,Oper.uponIn_enter]
  refine ⟨wf_depth,callsIn_wf (hcalls.mono fun en w' hp=>?_)⟩
  obtain ⟨v',σ',rfl,q1,q2,q3,q4,q5⟩:=hp
  exact hK v' w' σ' ⟨q1,hinv.back q2 q4 (hC.grow _ _ _ _ _ _ _ hx hl2),q3,q4,fun j hj=>.inr (q5 j hj),hC.len _ _ _ _ _ _ _ hx hl2,(hC.grow _ _ _ _ _ _ _ hx hl2).weaken hl1⟩
 ·have hnc:∀mp f args,ao≠.call mp f args:=fun mp f args e=>hcall ⟨mp,f,args,e⟩
  obtain rfl:ao=ao0:=by
   rcases hao with h | ⟨m',f',as',h,_⟩
   ·exact h
   ·exact absurd h (hnc _ _ _)
  rw [zSp hnc] at hx
  obtain ⟨nx,w',σ',v',hr,hn,q1,q2,q3,q4,q5,q6,q7⟩:=aOp_sound htr hinv hρ hd hx
  have hnext:Next' (Prg.mk P pf) W lim σ dest H w v H' v' w' σ':=⟨q1,q2,q3,q4,fun j hj=>(q5 j hj).imp id (·.2),q6,aOp_grow hx hdl hl⟩
  have hdf:∀c,o.op≠.defer c:=fun c e=>by
   obtain ⟨dst,op,type,pos,after,guard⟩:=o
   simp only at e
   subst e
   unfold trOp at htr
   split at htr<;>simp at htr
  refine ⟨fun _ _=>trivial, ?_⟩
  rw [Oper.semAt_eq _ _ _ hdf,hr]
  cases nx<;>simp [nextVal] at hn
  ·subst hn;rw [Oper.uponIn_value];exact hK _ _ _ hnext
  ·subst hn;rw [Oper.uponIn_skip];exact hK _ _ _ hnext
theorem stepOp_wp (hC:CallOk (Prg.mk P pf) C) {draw:Bool} {o:Oper} {ao:AOp} (htr:trOp P pureF draw o=some ao) (hinv:Inv (Prg.mk P pf) W lim σ H w) (hl:lim≤H.length) (hdl:∀d,dest=some d→lim≤d) (hd:∀d,dest=some d→d<H.length∧σ d=none)
  {ρ:Operand→Value} {a:Act} (hρ:∀x,zOo x=true→zVr σ (ρ x) (a.eval x)) {v:Value} (hx:stepOp C lim dest ao ρ H=some (v,H'))
  {K:Act→World→Prop} {Q:Exit→Act→World→Prop} (hK:∀v' w' σ',Next' (Prg.mk P pf) W lim σ dest H w v H' v' w' σ'→K (a.put o.dst v') w') {ro:Option Nat}:o.wpIn (WF ro) 0 P a w K Q:=
 stepOp_wp' hC htr (.inl rfl) hinv hl hdl hd hρ hx hK
end
section
variable {P:Program} {pf pureF:FuncId→Bool} {C:CallF} {W:Nat→Prop} {lim:Nat} {σ:Sig} {H H':zH} {w:World} {dest:Option Nat} {ds:List Deferred} {ro:Option Nat}
theorem Inv.mask (base:Nat):∀(l:List Nat) {H:zH},Inv (Prg.mk P pf) W lim σ H w→Inv (Prg.mk P pf) W lim σ (zMh base l H) w
 | [],_,h=>h
 | i::l,H,h=>by
   simp only [zMh,List.foldl_cons]
   exact Inv.mask base l (h.killAny (base+i))
theorem masked_next (hinv:Inv (Prg.mk P pf) W lim σ H w) (base:Nat) (l:List Nat) (hown:∀i∈l,∀b,H[base+i]? = some b→alive b=true→owned b=true) (hlim:lim≤base) :
  ∃Wm:Nat→Prop,Inv (Prg.mk P pf) Wm lim σ (zMh base l H) w∧∀v Hm' v' w' σ',Next' (Prg.mk P pf) Wm lim σ dest (zMh base l H) w v Hm' v' w' σ'→Next' (Prg.mk P pf) W lim σ dest H w v (zUm base l H Hm') v' w' σ':=by
 refine ⟨fun b=>W b∧∀i∈l,∀bl L,H[base+i]? = some bl→alive bl=true→σ (base+i)=some L→L.blk≠b, ?_, ?_⟩
 ·have hm:=hinv.mask base l
  have get:∀(j:Nat) b,(zMh base l H)[j]? = some b→alive b=true→H[j]? = some b∧∀i∈l,base+i≠j:=fun j b hb ha=>by
   by_cases hj:∃i∈l,base+i=j
   ·have hlt:j<H.length:=by
     have:=(List.getElem?_eq_some_iff.1 hb).1
     rw [zMl] at this;exact this
    rw [mask_in base l H hj hlt] at hb
    cases hb;simp [alive] at ha
   ·have hj':∀i∈l,base+i≠j:=fun i hi e=>hj ⟨i,hi,e⟩
    rw [mask_out base l H hj'] at hb
    exact ⟨hb,hj'⟩
  obtain ⟨w0,r1,r2,r3,r4⟩:=hm.held
  refine ⟨⟨fun b hb=>⟨hm.fresh b hb,fun k hk bl Lk hbl hal hLk e=>?_⟩,w0,r1,r2,fun b hb=>r3 b hb.1,r4⟩,hm.blk,hm.inj,fun i b L hb ho hl hL=>⟨hm.wr i b L hb ho hl hL,fun k hk bl Lk hbl hal hLk e=>?_⟩,hm.dom⟩
  ·obtain ⟨L',h1,h2⟩:=hinv.blk (base+k) bl hbl hal
   rw [hLk] at h1;cases h1
   have:=h2.lt hal
   omega
  ·obtain ⟨h1,h2⟩:=get i b hb (zAo ho)
   exact hinv.inj i (base+k) b bl L Lk h1 hbl (fun e=>h2 k hk e.symm) ho hal hL hLk e.symm
 ·rintro v Hm' v' w' σ' ⟨q1,q2,q3,q4,q5,q6,q7⟩
  rw [zMl] at q5 q6
  have hstp:Stp W w w':=⟨q3.os,q3.tape,q3.output,q3.size,fun b hb=>q3.block b fun h=>hb h.1⟩
  have same:∀i L,σ i=some L→σ' i=some L:=q4
  have get:∀(j:Nat) b,(zUm base l H Hm')[j]? = some b→alive b=true→(H[j]? = some b∧∃i∈l,base+i=j)∨(Hm'[j]? = some b∧∀i∈l,base+i≠j):=fun j b hb ha=>by
   by_cases hj:∃i∈l,base+i=j
   ·have hlt:j<Hm'.length:=by
     have:=(List.getElem?_eq_some_iff.1 hb).1
     rw [zUl] at this;exact this
    rw [unmask_in base H l Hm' hj hlt] at hb
    simp only [Option.some.injEq] at hb
    exact .inl ⟨hget_some hb ha,hj⟩
   ·have hj':∀i∈l,base+i≠j:=fun i hi e=>hj ⟨i,hi,e⟩
    rw [unmask_out base H l Hm' hj'] at hb
    exact .inr ⟨hb,hj'⟩
  have old:∀(j:Nat) b,Hm'[j]? = some b→alive b=true→(∀i∈l,base+i≠j)→H[j]? = some b∨(owned b=true∧lim≤j):=fun j b hb ha hj=>by
   rcases q7 j b hb ha with h | h
   ·rw [mask_out base l H hj] at h;exact .inl h
   ·exact .inr h
  have hs':∀(j:Nat) b Lj,H[j]? = some b→alive b=true→σ' j=some Lj→σ j=some Lj:=fun j b Lj hb ha hj=>by
   obtain ⟨L,h1,_⟩:=hinv.blk j b hb ha
   have:=same _ _ h1
   rw [this] at hj;cases hj;exact h1
  refine ⟨q1,⟨hinv.toRoot.step q3.size hstp.block,fun j b hb ha=>?_,fun i j bi bj Li Lj hbi hbj hne hoi haj hi hj=>?_,fun i b L hb ho hli hL=>?_,fun j hj=>q2.dom j (by rw [zUl] at hj;exact hj)⟩,hstp,q4,q5,by rw [zUl];exact q6,⟨fun j b hb ha=>?_,fun j hj=>by
   have hj':∀i∈l,base+i≠j:=fun i hi e=>by omega
   rw [unmask_out base H l Hm' hj',q7.keep j hj,mask_out base l H hj']⟩⟩
  ·rcases get j b hb ha with ⟨h1,h2⟩ | ⟨h1,h2⟩
   ·obtain ⟨L,g1,g2⟩:=hinv.blk j b h1 ha
    refine ⟨L,same _ _ g1,g2.mono q4 fun _=>q3.block _ fun hW=>?_⟩
    obtain ⟨k,hk,rfl⟩:=h2
    exact hW.2 k hk b L h1 ha g1 rfl
   ·exact q2.blk j b h1 ha
  ·rcases get i bi hbi (zAo hoi) with ⟨h1,h2⟩ | ⟨h1,h2⟩
   ·have hi0:=hs' i bi Li h1 (zAo hoi) hi
    rcases get j bj hbj haj with ⟨g1,g2⟩ | ⟨g1,g2⟩
    ·exact hinv.inj i j bi bj Li Lj h1 g1 hne hoi haj hi0 (hs' j bj Lj g1 haj hj)
    ·rcases old j bj g1 haj g2 with h | h
     ·exact hinv.inj i j bi bj Li Lj h1 h hne hoi haj hi0 (hs' j bj Lj h haj hj)
     ·have:=q2.wr j bj Lj g1 h.1 h.2 hj
      obtain ⟨k,hk,rfl⟩:=h2
      exact this.2 k hk bi Li h1 (zAo hoi) hi0
   ·rcases get j bj hbj haj with ⟨g1,g2⟩ | ⟨g1,g2⟩
    ·have hj0:=hs' j bj Lj g1 haj hj
     rcases old i bi h1 (zAo hoi) h2 with h | h
     ·exact hinv.inj i j bi bj Li Lj h g1 hne hoi haj (hs' i bi Li h (zAo hoi) hi) hj0
     ·have:=q2.wr i bi Li h1 h.1 h.2 hi
      obtain ⟨k,hk,rfl⟩:=g2
      exact fun e=>this.2 k hk bj Lj g1 haj hj0 e.symm
    ·exact q2.inj i j bi bj Li Lj h1 g1 hne hoi haj hi hj
  ·rcases get i b hb (zAo ho) with ⟨h1,h2⟩ | ⟨h1,h2⟩
   ·exact hinv.wr i b L h1 ho hli (hs' i b L h1 (zAo ho) hL)
   ·exact (q2.wr i b L h1 ho hli hL).1
  ·rcases get j b hb ha with ⟨h1,h2⟩ | ⟨h1,h2⟩
   ·exact .inl h1
   ·exact old j b h1 ha h2
structure FrRel (ds:List Deferred) (σ:Sig) (N:Nat) (fr:Nat→Value) (a:Act):Prop where
 size:N≤a.tmps.size
 defers:a.defers=ds
 val:∀t,zVr σ (fr t) (a.tmps.getD t undef)
theorem FrRel.mono {σ τ:Sig} {N:Nat} {fr:Nat→Value} {a:Act} (h:FrRel ds σ N fr a) (hle:Sig.le σ τ):FrRel ds τ N fr a:=⟨h.size,h.defers,fun t=>(h.val t).mono hle⟩
theorem FrRel.ev {σ:Sig} {N:Nat} {fr:Nat→Value} {a:Act} (h:FrRel ds σ N fr a) {x:Operand} (hx:zOo x=true):zVr σ (ev fr x) (a.eval x):=by
 cases x with
 | tmp t=>exact h.val t
 | const v=>
   have hv:atom v=true:=by simpa [zOo] using hx
   exact .atom hv
 | func f=>exact .atom rfl
 | global g=>simp [zOo] at hx
theorem FrRel.put {σ:Sig} {N:Nat} {fr fr':Nat→Value} {a:Act} (h:FrRel ds σ N fr a) {dst:Option Nat} {v v':Value} (hv:zVr σ v v') (hp:putD N fr dst v=some fr'):FrRel ds σ N fr' (a.put dst v'):=by
 cases dst with
 | none=>cases hp;exact h
 | some d=>
   simp only [putD] at hp
   split at hp
   case isFalse=>cases hp
   rename_i hd
   cases hp
   refine ⟨by simpa [Act.put] using h.size,h.defers,fun t=>?_⟩
   simp only [Act.put,upd,Array.getD_eq_getD_getElem?]
   by_cases e:t=d
   ·subst e
    have:t<a.tmps.size:=by have:=h.size;omega
    rw [if_pos rfl,Array.getElem?_setIfInBounds_self_of_lt this]
    exact hv
   ·rw [if_neg e,Array.getElem?_setIfInBounds_ne (fun h=>e h.symm),←Array.getD_eq_getD_getElem?]
    exact h.val t
theorem FrRel.wanted {σ:Sig} {N:Nat} {fr:Nat→Value} {a:Act} (h:FrRel ds σ N fr a) {ops:Array Oper} {o:Oper} {g:Option (Nat×Bool)} (hg:trGuard ops o.guard=some g) {b:Bool} (hw:wantedA N fr g=some b) :
  Region.wanted o (yielded ops a.tmps)=b:=by
 unfold trGuard at hg
 cases ho:o.guard with
 | none=>
   rw [ho] at hg;simp at hg;subst hg
   simp [wantedA] at hw;subst hw
   simp [Region.wanted,ho]
 | some p=>
   obtain ⟨j,c⟩:=p
   rw [ho] at hg
   simp only at hg
   split at hg
   case h_2=>cases hg
   rename_i t ht
   simp only [Option.some.injEq] at hg;subst hg
   simp only [wantedA] at hw
   split at hw
   case isFalse=>cases hw
   rename_i htN
   have hsz:t<a.tmps.size:=Nat.lt_of_lt_of_le htN h.size
   have hval:=h.val t
   rw [Array.getD_eq_getD_getElem?,Array.getElem?_eq_getElem hsz] at hval
   simp only [Option.getD_some] at hval
   have hy:yielded ops a.tmps j=match a.tmps[t] with | .bool b=>some b | _=>none:=by
    unfold yielded
    rw [ht]
    simp only [Option.bind_some,Array.getElem?_eq_getElem hsz]
    cases a.tmps[t]<;>rfl
   simp only [Region.wanted,ho,hy]
   split at hw
   ·rename_i d hd
    rw [hd] at hval
    rw [hval.bool_left]
    simp only [Option.some.injEq] at hw
    rw [←hw]
    simp
   ·rename_i hnb
    simp only [Option.some.injEq] at hw
    rw [←hw]
    have:∀d,a.tmps[t]≠.bool d:=fun d e=>by
     rw [e] at hval
     generalize fr t=x at hval hnb
     cases hval
     exact hnb d rfl
    cases hx:a.tmps[t]<;>first | (exact absurd hx (this _)) | simp
structure State (Pp:Prg) (ds:List Deferred) (W:Nat→Prop) (lim:Nat) (σ:Sig) (N:Nat) (fr:Nat→Value) (H:zH) (a:Act) (w:World):Prop where
 fr:FrRel ds σ N fr a
 inv:Inv Pp W lim σ H w
 lim:lim≤H.length
structure Kept (σ:Sig) (H:zH) (base n:Nat) (todo:List Nat):Prop where
 len:base+n≤H.length
 own:∀r,r<n→∀b,H[base+r]? = some b→alive b=true→owned b=true
 free:∀r∈todo,σ (base+r)=none
 lt:∀r∈todo,r<n
theorem stepOp_unf {C:CallF} {o:AOp} {lim:Nat} {dest:Option Nat} {ρ:Operand→Value} {H:zH} {r} (h:stepOp C lim dest o ρ H=some r):stepOp C lim dest (unf o) ρ H=some r:=by
 by_cases hc:∃mp f args,o=.call mp f args
 ·obtain ⟨mp,f,args,rfl⟩:=hc;exact h
 ·have hnc:∀mp f args,o≠.call mp f args:=fun mp f args e=>hc ⟨mp,f,args,e⟩
  rw [zSp hnc] at h
  have hnc':∀mp f args,unf o≠.call mp f args:=fun mp f args e=>by
   cases o<;>simp only [unf] at e<;>first | (cases e;done) | (exact hnc _ _ _ e) | (split at e<;>first | (cases e;done) | (rename_i hq;cases hq;done) | (exact hnc _ _ _ e))
  rw [zSp hnc']
  exact aOp_unf h
theorem dins_wp (hC:CallOk (Prg.mk P pf) C) {ops:Array Oper} {j:Nat} {o:Oper} (hj:ops[j]? = some o) {i0:zIn} (htr:trIns P pureF true ops o=some i0) {i:zIn} (hi:i.dst=i0.dst∧i.guard=i0.guard∧(i.op=i0.op∨unf i.op=i0.op∨∃m f as,i.op=.call m f as∧i0.op=.call .any f as)) (hns:isS i0.op=false)
  {N base n:Nat} {fr fr':Nat→Value} {a:Act} (hs:State (Prg.mk P pf) ds W lim σ N fr H a w) (hlb:lim≤base) {todo:List Nat} (hk:Kept σ H base n todo) (hdst:∀r,i.made=some r→r∈todo∧r<n) (hmask:∀r∈i.mask,r<n)
  (hx:insOp C N lim (some base) i fr H=some (fr',H')) {K:Act→World→Prop} {Q:Exit→Act→World→Prop}
  (hK:∀σ' a' w',State (Prg.mk P pf) ds W lim σ' N fr' H' a' w'→Stp W w w'→Sig.le σ σ'→Grow lim H H'→Kept σ' H' base n (todo.filter fun r=>i.made≠some r)→(∀j,σ' j≠σ j→(∃r,i.made=some r∧j=base+r)∨H.length≤j)→H.length≤H'.length→K a' w'):wpOpIn (WF ro) 0 P ops Q j K a w:=by
 obtain ⟨ao,hao,htr⟩:=zOb htr
 obtain ⟨g,hg,htr⟩:=zOb htr
 cases htr
 obtain ⟨e1,e2,e3⟩:=hi
 simp only at e1 e2 e3
 unfold wpOpIn
 rw [hj]
 simp only
 unfold insOp at hx
 rw [insVal_some,e2,e1] at hx
 cases hw:wantedA N fr g with
 | none=>rw [hw] at hx;cases hx
 | some b=>
 rw [hs.fr.wanted hg hw]
 rw [hw] at hx
 cases b with
 | false=>
   simp only [Bool.false_eq_true,if_false]
   simp only [Option.map_eq_some_iff,Prod.mk.injEq] at hx
   obtain ⟨f,hf,rfl,rfl⟩:=hx
   exact ⟨fun _ _=>trivial,hK σ _ w ⟨hs.fr.put (.atom rfl) hf,hs.inv,hs.lim⟩ (Stp.refl _ _) (Sig.le_refl _) (Grow.refl _ _) ⟨hk.len,hk.own,fun r hr=>hk.free r (List.mem_filter.1 hr).1,fun r hr=>hk.lt r (List.mem_filter.1 hr).1⟩ (fun j hj=>absurd rfl hj) (Nat.le_refl _)⟩
 | true=>
   simp only [if_true]
   simp only [zBv] at hx
   split at hx
   case h_2=>cases hx
   rename_i v H1 hv
   split at hv
   case h_2=>cases hv
   rename_i v1 Hm hst
   simp only [Option.some.injEq,Prod.mk.injEq] at hv
   obtain ⟨rfl,rfl⟩:=hv
   simp only [Option.map_eq_some_iff,Prod.mk.injEq] at hx
   obtain ⟨f,hf,rfl,rfl⟩:=hx
   obtain ⟨ao',hst,hfrom⟩:∃ao',stepOp C lim (i.made.map (base+·)) ao' (ev fr) (zMh base i.mask H)=some (v1,Hm)∧(ao'=ao∨∃m f as,ao'=.call m f as∧ao=.call .any f as):=by
    cases hS:isS i.op with
    | false=>
      have hmd:i.made=i.dest:=by simp [zIn.made,hS]
      rw [hmd]
      rcases e3 with e3 | e3 | ⟨m',f',as',e3,e4⟩
      ·exact ⟨ao,by rw [e3] at hst;exact hst,.inl rfl⟩
      ·exact ⟨ao,by rw [←e3];exact stepOp_unf hst,.inl rfl⟩
      ·exact ⟨_,hst,.inr ⟨m',f',as',e3,e4⟩⟩
    | true=>
      have hmd:i.made=none:=by simp [zIn.made,hS]
      rw [hmd]
      rcases e3 with e3 | e3 | ⟨m',f',as',e3,e4⟩
      ·rw [e3,hns] at hS;cases hS
      ·refine ⟨ao, ?_,.inl rfl⟩
       have h2:=stepOp_unf hst
       rw [e3] at h2
       generalize hop:i.op=io at hS e3
       cases io<;>simp [isS] at hS
       simp only [unf] at e3
       subst e3
       exact h2
      ·rw [e3] at hS;simp [isS] at hS
   have hd:∀d,i.made.map (base+·)=some d→∃r,i.made=some r∧d=base+r∧r∈todo∧r<n:=fun d e=>by
    simp only [Option.map_eq_some_iff] at e
    obtain ⟨r,hr,rfl⟩:=e
    exact ⟨r,hr,rfl,hdst r hr⟩
   obtain ⟨Wm,hm1,hm2⟩:=masked_next (dest:=i.made.map (base+·)) hs.inv base i.mask (fun r hr b hb ha=>hk.own r (hmask r hr) b hb ha) hlb
   refine stepOp_wp' hC hao hfrom hm1 (by rw [zMl];exact hs.lim) (fun d e=>by obtain ⟨r,_,rfl,_⟩:=hd d e;omega)
    (fun d e=>by
     obtain ⟨r,_,rfl,h1,h2⟩:=hd d e
     rw [zMl]
     exact ⟨by have:=hk.len;omega,hk.free r h1⟩) (fun x hx=>hs.fr.ev hx) hst fun v' w' σ' hn=>?_
   obtain ⟨q1,q2,q3,q4,q5,q6,q7⟩:=hm2 _ _ _ _ _ hn
   have hch:∀j,σ' j≠σ j→(∃r,i.made=some r∧j=base+r)∨H.length≤j:=fun j hj=>by
    rcases q5 j hj with h | h
    ·obtain ⟨r,h1,h2,_⟩:=hd j h
     exact .inl ⟨r,h1,h2⟩
    ·exact .inr h
   refine hK σ' _ w' ⟨(hs.fr.mono q4).put q1 hf,q2,by have:=hs.lim;omega⟩ q3 q4 q7 ⟨by have:=hk.len;omega,fun r hr b hb ha=>?_,fun r hr=>?_,fun r hr=>hk.lt r (List.mem_filter.1 hr).1⟩ hch q6
   ·rcases q7 _ b hb ha with h | h
    ·exact hk.own r hr b h ha
    ·exact h.1
   ·obtain ⟨h1,h2⟩:=List.mem_filter.1 hr
    have hne:i.made≠some r:=by simpa using h2
    apply Decidable.byContradiction
    intro hc
    have hch2:=hch (base+r) (fun e=>hc (by rw [e];exact hk.free r h1))
    rcases hch2 with ⟨r',h3,h4⟩ | h3
    ·have:r'=r:=by omega
     subst this;exact hne h3
    ·have h1':=hk.lt r h1;have h2':=hk.len;omega
end
theorem mapM_get {α β:Type} {f:α→Option β}:∀{l:List α} {r:List β},l.mapM f=some r→r.length=l.length∧∀(j:Nat) x y,l[j]? = some x→r[j]? = some y→f x=some y
 | [],r,h=>by simp at h;subst h;exact ⟨rfl,fun j x y hx=>by simp at hx⟩
 | a::l,r,h=>by
   rw [List.mapM_cons] at h
   obtain ⟨b,hb,h⟩:=zOb h
   obtain ⟨r',hr',h⟩:=zOb h
   cases h
   obtain ⟨h1,h2⟩:=mapM_get hr'
   refine ⟨by simp [h1],fun j x y hx hy=>?_⟩
   cases j with
   | zero=>simp at hx hy;subst hx hy;exact hb
   | succ j=>exact h2 j x y (by simpa using hx) (by simpa using hy)
section
variable {P:Program} {pf pureF:FuncId→Bool} {C:CallF} {W:Nat→Prop} {lim:Nat} {σ:Sig} {H H':zH} {w:World} {ds:List Deferred} {ro:Option Nat}
def RegPost (Pp:Prg) (ds:List Deferred) (W:Nat→Prop) (lim:Nat) (σ:Sig) (N:Nat) (fr':Nat→Value) (H H':zH) (w:World):Exit→Act→World→Prop:=fun e a' w'=>
 e=.normal∧∃σ',State Pp ds W lim σ' N fr' H' a' w'∧Stp W w w'∧Sig.le σ σ'∧Grow lim H H'∧(∀j,σ' j≠σ j→H.length≤j)∧H.length≤H'.length
theorem waits_listed {ops:Array Oper} {listed:Array Bool} (hcl:∀(i:Nat) o,ops[i]? = some o→listed.getD i false=true→∀e∈o.after.toList,Region.binds .any e=true→listed.getD e.on false=true) :
  ∀(n x a:Nat),listed.getD x false=true→waits ops n x a=true→listed.getD a false=true
 | 0,x,a,_,h=>by simp [waits] at h
 | n+1,x,a,hx,h=>by
   unfold waits at h
   split at h
   ·rename_i o ho
    obtain ⟨e,he,h2⟩:=List.any_eq_true.1 h
    simp only [Bool.and_eq_true,Bool.or_eq_true,beq_iff_eq] at h2
    have he':=hcl x o ho hx e he h2.1
    rcases h2.2 with h3 | h3
    ·rw [←h3];exact he'
    ·exact waits_listed hcl n e.on a he' h3
   ·cases h
theorem ordOk_spec {ops:Array Oper}:∀(l A0:List Nat),ordOk ops A0 l=true→∀A i B,l=A++i::B→∀o,ops[i]? = some o→∀e∈o.after.toList,Region.binds .any e=true→e.on∈A0++A
 | [],A0,_,A,i,B,h=>by simp at h
 | x::l,A0,hk,A,i,B,h=>by
   intro o ho e he hb
   simp only [ordOk,Bool.and_eq_true] at hk
   cases A with
   | nil=>
     simp only [List.nil_append,List.cons.injEq] at h
     obtain ⟨rfl,rfl⟩:=h
     have h1:=hk.1
     rw [ho] at h1
     have:=List.all_eq_true.1 h1 e he
     rw [hb] at this
     simpa using this
   | cons a A=>
     simp only [List.cons_append,List.cons.injEq] at h
     obtain ⟨rfl,h⟩:=h
     have:=ordOk_spec l (A0++[x]) hk.2 A i B h o ho e he hb
     simpa using this
theorem pairsOk_spec {ops:Array Oper} {L:List zIn}:∀(l A0:List Nat),pairsOk ops L A0 l=true→∀A i B,l=A++i::B→∀j∈A0++A,pairOk ops L i j=true
 | [],A0,_,A,i,B,h=>by simp at h
 | x::l,A0,hk,A,i,B,h=>by
   intro j hj
   simp only [pairsOk,Bool.and_eq_true] at hk
   cases A with
   | nil=>
     simp only [List.nil_append,List.cons.injEq] at h
     obtain ⟨rfl,rfl⟩:=h
     exact List.all_eq_true.1 hk.1 j (by simpa using hj)
   | cons a A=>
     simp only [List.cons_append,List.cons.injEq] at h
     obtain ⟨rfl,h⟩:=h
     exact pairsOk_spec l (A0++[x]) hk.2 A i B h j (by simpa using hj)
theorem nodupB_spec:∀{l:List Nat},nodupB l=true→l.Nodup
 | [],_=>List.nodup_nil
 | x::l,h=>by
   simp only [nodupB,Bool.and_eq_true,Bool.not_eq_true',List.contains_eq_mem,decide_eq_false_iff_not] at h
   exact List.nodup_cons.2 ⟨h.1,nodupB_spec h.2⟩
theorem waits_ahead {ops:Array Oper} {ord:List Nat} (hb:∀A i B,ord=A++i::B→∀o,ops[i]? = some o→∀e∈o.after.toList,Region.binds .any e=true→e.on∈A) :
  ∀(n x a:Nat),waits ops n x a=true→∀A B,ord=A++x::B→a∈A
 | 0,x,a,h=>by simp [waits] at h
 | n+1,x,a,h=>by
   intro A B hA
   unfold waits at h
   split at h
   ·rename_i o ho
    obtain ⟨e,he,h2⟩:=List.any_eq_true.1 h
    simp only [Bool.and_eq_true,Bool.or_eq_true,beq_iff_eq] at h2
    have hm:=hb A x B hA o ho e he h2.1
    rcases h2.2 with h3 | h3
    ·rw [←h3];exact hm
    ·obtain ⟨A1,A2,rfl⟩:=List.append_of_mem hm
     have:=waits_ahead hb n e.on a h3 A1 (A2++x::B) (by rw [hA];simp)
     exact List.mem_append_left _ this
   ·cases h
theorem ready_iff {ops:Array Oper} {listed:Array Bool} {i:Nat}:i∈Region.ready .any ops listed↔i<ops.size∧listed.getD i true=false∧∀o,ops[i]? = some o→∀e∈o.after.toList,Region.binds .any e=true→listed.getD e.on false=true:=by
 unfold Region.ready
 rw [List.mem_filter]
 simp only [List.mem_range,Bool.and_eq_true,Bool.not_eq_true']
 constructor
 ·rintro ⟨h1,h2,h3⟩
  refine ⟨h1,h2,fun o ho e he hb=>?_⟩
  rw [ho] at h3
  simp only [Option.map_some,Option.getD_some] at h3
  rw [←Array.all_toList] at h3
  have:=List.all_eq_true.1 h3 e he
  simpa [hb] using this
 ·rintro ⟨h1,h2,h3⟩
  refine ⟨h1,h2, ?_⟩
  have ho:ops[i]? = some ops[i]:=Array.getElem?_eq_getElem h1
  rw [ho]
  simp only [Option.map_some,Option.getD_some]
  rw [←Array.all_toList]
  refine List.all_eq_true.2 fun e he=>?_
  cases hb:Region.binds .any e with
  | false=>simp
  | true=>simpa using h3 _ ho e he hb
theorem rank_get:∀(l:List AOp) (n j:Nat),(ranks.go n l).length=l.length∧(∀o r,l[j]? = some o→(ranks.go n l)[j]? = some r→(makes o=true→∃k,r=some k∧n≤k∧k<n+((ranks.go n l).filterMap id).length)∧(makes o=false→r=none))
 | [],n,j=>⟨rfl,fun o r h=>by simp at h⟩
 | o::l,n,j=>by
   unfold ranks.go
   cases hm:makes o with
   | true=>
     simp only [if_true]
     obtain ⟨h1,h2⟩:=rank_get l (n+1) (j-1)
     refine ⟨by simp [h1],fun o' r ho hr=>?_⟩
     cases j with
     | zero=>simp at ho hr;subst ho hr;exact ⟨fun _=>⟨n,rfl,Nat.le_refl _,(by simp)⟩,(fun h=>by rw [hm] at h;cases h)⟩
     | succ j=>
       obtain ⟨g1,g2⟩:=h2 o' r (by simpa using ho) (by simpa using hr)
       refine ⟨fun h=>?_,g2⟩
       obtain ⟨k,k1,k2,k3⟩:=g1 h
       refine ⟨k,k1,by omega, ?_⟩
       simp only [List.filterMap_cons,id,List.length_cons]
       omega
   | false=>
     simp only [Bool.false_eq_true,if_false]
     obtain ⟨h1,h2⟩:=rank_get l n (j-1)
     refine ⟨by simp [h1],fun o' r ho hr=>?_⟩
     cases j with
     | zero=>simp at ho hr;subst ho hr;exact ⟨(fun h=>by rw [hm] at h;cases h),fun _=>rfl⟩
     | succ j=>
       obtain ⟨g1,g2⟩:=h2 o' r (by simpa using ho) (by simpa using hr)
       refine ⟨fun h=>?_,g2⟩
       obtain ⟨k,k1,k2,k3⟩:=g1 h
       exact ⟨k,k1,k2,by simpa using k3⟩
theorem rank_inj:∀(l:List AOp) (n i j k:Nat),(ranks.go n l)[i]? = some (some k)→(ranks.go n l)[j]? = some (some k)→i=j∧n≤k
 | [],n,i,j,k,h,_=>by simp [ranks.go] at h
 | o::l,n,i,j,k,hi,hj=>by
   unfold ranks.go at hi hj
   cases hm:makes o with
   | true=>
     rw [hm] at hi hj
     simp only [if_true] at hi hj
     cases i with
     | zero=>
       cases j with
       | zero=>simp at hi;exact ⟨rfl,by omega⟩
       | succ j=>
         simp at hi hj
         have:=(rank_inj l (n+1) j j k hj hj).2
         omega
     | succ i=>
       cases j with
       | zero=>
         simp at hi hj
         have:=(rank_inj l (n+1) i i k hi hi).2
         omega
       | succ j=>
         simp at hi hj
         have:=rank_inj l (n+1) i j k hi hj
         omega
   | false=>
     rw [hm] at hi hj
     simp only [Bool.false_eq_true,if_false] at hi hj
     cases i with
     | zero=>simp at hi
     | succ i=>
       cases j with
       | zero=>simp at hj
       | succ j=>
         simp at hi hj
         have:=rank_inj l n i j k hi hj
         omega
structure Plan (P:Program) (pureF:FuncId→Bool) (ops:Array Oper) (n:Nat) (ord:List Nat) (L:List zIn):Prop where
 len:L.length=ops.size
 mem:∀i,i∈ord↔i<ops.size
 nodup:ord.Nodup
 back:∀A i B,ord=A++i::B→∀o,ops[i]? = some o→∀e∈o.after.toList,Region.binds .any e=true→e.on∈A
 ins:∀(j:Nat) o i,ops[j]? = some o→L[j]? = some i→∃i0,trIns P pureF true ops o=some i0∧i.dst=i0.dst∧i.guard=i0.guard∧(i.op=i0.op∨unf i.op=i0.op∨∃m f as,i.op=.call m f as∧i0.op=.call .any f as)∧isS i0.op=false
 planned:∀(j:Nat) i,L[j]? = some i→Planned i
 sep:∀A i B,ord=A++i::B→∀j∈A,∀x y,L[j]? = some x→L[i]? = some y→waits ops ops.size i j=false→Sep x y
 dest:∀(j:Nat) i r,L[j]? = some i→i.dest=some r→r<n
 mask:∀(j:Nat) i r,L[j]? = some i→r∈i.mask→r<n
 inj:∀(i j:Nat) x y r,L[i]? = some x→L[j]? = some y→x.made=some r→y.made=some r→i=j
theorem toL_spec (i:zIn):(toL i).dst=i.dst∧(toL i).guard=i.guard∧((toL i).op=i.op∨unf (toL i).op=i.op∧∃e b s x y,i.op=.append e b s x y∧∀f as,(toL i).op≠.call .any f as):=by
 unfold toL
 split
 ·rename_i h;exact ⟨rfl,rfl,.inr ⟨by rw [h];rfl,_,_,_,_,_,h,fun f as e=>by cases e⟩⟩
 ·exact ⟨rfl,rfl,.inl rfl⟩
theorem fresh_spec (l0:List zIn) (x:zIn):(fresh l0 x).dst=x.dst∧(fresh l0 x).guard=x.guard∧((fresh l0 x).op=x.op∨unf (fresh l0 x).op=x.op∧∃e b s y z,(fresh l0 x).op=.append0 e b s y z):=by
 unfold fresh
 split
 ·rename_i hop
  split
  ·exact ⟨rfl,rfl,.inr ⟨by simp only [hop,unf],_,_,_,_,_,rfl⟩⟩
  ·exact ⟨rfl,rfl,.inl rfl⟩
 ·exact ⟨rfl,rfl,.inl rfl⟩
theorem prepI_spec (st:Bool) (l0:List zIn) (x:zIn):(prepI st l0 x).dst=x.dst∧(prepI st l0 x).guard=x.guard∧((prepI st l0 x).op=x.op∨unf (prepI st l0 x).op=x.op∧((∃e b s y z,(prepI st l0 x).op=.append0 e b s y z)∨∃n a z,(prepI st l0 x).op=.storeD n a z)):=by
 obtain ⟨f1,f2,f3⟩:=fresh_spec l0 x
 unfold prepI
 split
 ·unfold toS
  split
  ·rename_i n t z hop
   split
   ·refine ⟨f1,f2,.inr ⟨?_,.inr ⟨_,_,_,rfl⟩⟩⟩
    rcases f3 with f3 | ⟨_,_,_,_,_,_,f4⟩
    ·rw [←f3,hop];rfl
    ·rw [hop] at f4;cases f4
   ·exact ⟨f1,f2,f3.imp id fun h=>⟨h.1,.inl h.2⟩⟩
  ·exact ⟨f1,f2,f3.imp id fun h=>⟨h.1,.inl h.2⟩⟩
 ·exact ⟨f1,f2,f3.imp id fun h=>⟨h.1,.inl h.2⟩⟩
theorem setS_same (l:List zIn) (rk:List (Option Nat)) (i:zIn):(setS l rk i).dst=i.dst∧(setS l rk i).guard=i.guard∧(setS l rk i).op=i.op∧(setS l rk i).mask=i.mask:=by
 unfold setS
 split<;>exact ⟨rfl,rfl,rfl,rfl⟩
theorem setS_no {l:List zIn} {rk:List (Option Nat)} {i:zIn} (h:isS i.op=false):setS l rk i=i:=by
 unfold setS
 rw [h];rfl
theorem sepS_spec {ops:Array Oper} {L:List zIn} (h:sepS ops L=true) {i j:Nat} {x y:zIn} (hx:L[i]? = some x) (hy:L[j]? = some y) (hij:i≠j) (w1:waits ops ops.size i j=false) (w2:waits ops ops.size j i=false) (hs:isS x.op=true) {r:Nat} (hr:x.dest=some r) :
  y.dest≠some r∧(r∈y.mask∨kind y.op=.p∨kind y.op=.a∨kind y.op=.s):=by
 have hi:=(List.getElem?_eq_some_iff.1 hx).1
 have hj:=(List.getElem?_eq_some_iff.1 hy).1
 have:=List.all_eq_true.1 h i (List.mem_range.2 hi)
 rw [hx] at this
 simp only [hs,Bool.not_true,Bool.false_or] at this
 replace this:=List.all_eq_true.1 this j (List.mem_range.2 hj)
 rw [hy,w1,w2] at this
 simp only [hr] at this
 have e:(i == j)=false:=by simpa using hij
 rw [e] at this
 simp at this
 obtain ⟨h1,h2⟩:=this
 refine ⟨h1, ?_⟩
 rcases h2 with ((h2 | h2) | h2) | h2
 ·exact .inl h2
 ·exact .inr (.inl h2)
 ·exact .inr (.inr (.inl h2))
 ·exact .inr (.inr (.inr h2))
theorem homesS_spec {L:List zIn} {n:Nat} (h:homesS L n=true) {j:Nat} {x:zIn} (hx:L[j]? = some x) (hs:isS x.op=true):∃r,x.dest=some r∧r<n:=by
 have:=List.all_eq_true.1 h x (List.mem_of_getElem? hx)
 rw [hs] at this
 simp only [Bool.not_true,Bool.false_or] at this
 split at this
 ·rename_i r hr;exact ⟨r,hr,by simpa using this⟩
 ·cases this
theorem toMk_spec (i:zIn):(toMk P i).dst=i.dst∧(toMk P i).guard=i.guard∧((toMk P i).op=i.op∨∃m f as,(toMk P i).op=.call m f as∧i.op=.call .any f as):=by
 unfold toMk
 split
 ·rename_i h
  split
  ·exact ⟨rfl,rfl,.inr ⟨_,_,_,rfl,h⟩⟩
  ·exact ⟨rfl,rfl,.inr ⟨_,_,_,rfl,h⟩⟩
 ·rename_i h;exact ⟨rfl,rfl,.inr ⟨_,_,_,rfl,h⟩⟩
 ·exact ⟨rfl,rfl,.inl rfl⟩
theorem toRc_spec {ops:Array Oper} {l:List zIn} {k:Nat} (i:zIn):(toRc ops l k i).dst=i.dst∧(toRc ops l k i).guard=i.guard∧((toRc ops l k i).op=i.op∨(unf (toRc ops l k i).op=i.op∧unf i.op=i.op)∨∃m f as,(toRc ops l k i).op=.call m f as∧i.op=.call .any f as):=by
 unfold toRc
 split
 ·rename_i h
  split
  ·exact ⟨rfl,rfl,.inr (.inr ⟨_,_,_,rfl,h⟩)⟩
  ·exact ⟨rfl,rfl,.inl rfl⟩
 ·rename_i h
  split
  ·exact ⟨rfl,rfl,.inr (.inl ⟨by rw [h];rfl,by rw [h];rfl⟩)⟩
  ·split
   ·exact ⟨rfl,rfl,.inr (.inl ⟨by rw [h];rfl,by rw [h];rfl⟩)⟩
   ·exact ⟨rfl,rfl,.inl rfl⟩
 ·rename_i h
  split
  ·exact ⟨rfl,rfl,.inr (.inl ⟨by rw [h];rfl,by rw [h];rfl⟩)⟩
  ·split
   ·exact ⟨rfl,rfl,.inr (.inl ⟨by rw [h];rfl,by rw [h];rfl⟩)⟩
   ·exact ⟨rfl,rfl,.inl rfl⟩
 ·rename_i h
  split
  ·split
   ·exact ⟨rfl,rfl,.inr (.inl ⟨by rw [h];rfl,by rw [h];rfl⟩)⟩
   ·exact ⟨rfl,rfl,.inr (.inl ⟨by rw [h];rfl,by rw [h];rfl⟩)⟩
  ·exact ⟨rfl,rfl,.inl rfl⟩
 ·exact ⟨rfl,rfl,.inl rfl⟩
theorem drawn_plan0 {st:Bool} {ops:Array Oper} {n:Nat} {M:List zIn} (h:trDrawn0 P pureF st ops=some (.drawn n M)):∃ord L,Plan P pureF ops n ord L∧M=ord.map fun j=>L.getD j default:=by
 unfold trDrawn0 at h
 obtain ⟨l0,hl0,h⟩:=zOb h
 simp only at h
 generalize hk:late ops (l0.map (prepI st l0))=k at h
 generalize hl2:((l0.map (prepI st l0)).zipIdx.map fun (i,j)=>if k=some j then toL i else i)=l2 at h
 generalize hlf:(l2.zipIdx.map fun (i,j)=>if recsHere l2 then toRc ops l2 j i else if besideRead ops l2 j then toMk P i else i)=l at h
 generalize hord:ordOf ops l.length (mks l) k=ord at h
 split at h
 case isFalse=>cases h
 rename_i hc
 simp only [Bool.and_eq_true] at hc
 obtain ⟨⟨⟨⟨⟨hperm,hordk⟩,hpairs⟩,hnoS⟩,hsepS⟩,hhome⟩:=hc
 simp only [pure,Option.some.injEq,zAc.drawn.injEq] at h
 obtain ⟨hn,hM⟩:=h
 generalize hL:(l.zipIdx.map fun (p:zIn×Nat)=>setS l (ranks (l.map fun x=>x.op)) (planIns ops (ranks (l.map fun x=>x.op)) p.2 p.1))=L at hM hsepS hhome
 refine ⟨ord,L, ?_,hM.symm⟩
 obtain ⟨hlen0,hget0⟩:=mapM_get hl0
 have hlen:l.length=ops.toList.length:=by rw [←hlf,List.length_map,List.length_zipIdx,←hl2,List.length_map,List.length_zipIdx,List.length_map];exact hlen0
 have hfrom2:∀(j:Nat) z,l2[j]? = some z→∃z0,l0[j]? = some z0∧z.dst=z0.dst∧z.guard=z0.guard∧(z.op=z0.op∨(unf z.op=z0.op∧∀f as,z.op≠.call .any f as)):=fun j z hz=>by
  rw [←hl2,List.getElem?_map,List.getElem?_zipIdx,List.getElem?_map] at hz
  simp only [Option.map_eq_some_iff] at hz
  obtain ⟨p,⟨q,⟨z0,h0,rfl⟩,rfl⟩,rfl⟩:=hz
  refine ⟨z0,h0, ?_⟩
  obtain ⟨f1,f2,f3⟩:=prepI_spec st l0 z0
  simp only
  split
  ·obtain ⟨t1,t2,t3⟩:=toL_spec (prepI st l0 z0)
   refine ⟨t1.trans f1,t2.trans f2, ?_⟩
   rcases t3 with t3 | ⟨t3,_,_,_,_,_,t4,t5⟩
   ·rcases f3 with f3 | ⟨f3,⟨_,_,_,_,_,f4⟩ | ⟨_,_,_,f4⟩⟩
    ·exact .inl (t3.trans f3)
    ·exact .inr ⟨by rw [t3];exact f3,by rw [t3,f4];intro _ _ h;cases h⟩
    ·exact .inr ⟨by rw [t3];exact f3,by rw [t3,f4];intro _ _ h;cases h⟩
   ·rcases f3 with f3 | ⟨f3,⟨_,_,_,_,_,f4⟩ | ⟨_,_,_,f4⟩⟩
    ·exact .inr ⟨t3.trans f3,t5⟩
    ·rw [t4] at f4;cases f4
    ·rw [t4] at f4;cases f4
  ·refine ⟨f1,f2, ?_⟩
   rcases f3 with f3 | ⟨f3,⟨_,_,_,_,_,f4⟩ | ⟨_,_,_,f4⟩⟩
   ·exact .inl f3
   ·exact .inr ⟨f3,by rw [f4];intro _ _ h;cases h⟩
   ·exact .inr ⟨f3,by rw [f4];intro _ _ h;cases h⟩
 have hfrom:∀(j:Nat) z,l[j]? = some z→∃z0,l0[j]? = some z0∧z.dst=z0.dst∧z.guard=z0.guard∧(z.op=z0.op∨unf z.op=z0.op∨∃m f as,z.op=.call m f as∧z0.op=.call .any f as):=fun j z hz=>by
  rw [←hlf,List.getElem?_map,List.getElem?_zipIdx] at hz
  simp only [Option.map_eq_some_iff] at hz
  obtain ⟨p,⟨q,hq,rfl⟩,rfl⟩:=hz
  obtain ⟨z0,h0,f1,f2,f3⟩:=hfrom2 j q hq
  refine ⟨z0,h0, ?_⟩
  simp only
  split
  ·obtain ⟨t1,t2,t3⟩:=toRc_spec (ops:=ops) (l:=l2) (k:=0+j) q
   refine ⟨t1.trans f1,t2.trans f2, ?_⟩
   rcases t3 with t3 | ⟨t3,t4⟩ | ⟨m,f,as,t3,t4⟩
   ·rcases f3 with f3 | f3
    ·exact .inl (t3.trans f3)
    ·exact .inr (.inl (by rw [t3];exact f3.1))
   ·rcases f3 with f3 | f3
    ·exact .inr (.inl (t3.trans f3))
    ·exact .inr (.inl (t3.trans (t4.symm.trans f3.1)))
   ·rcases f3 with f3 | f3
    ·exact .inr (.inr ⟨m,f,as,t3,f3.symm.trans t4⟩)
    ·exact absurd t4 (f3.2 f as)
  split
  ·obtain ⟨t1,t2,t3⟩:=toMk_spec (P:=P) q
   refine ⟨t1.trans f1,t2.trans f2, ?_⟩
   rcases t3 with t3 | ⟨m,f,as,t3,t4⟩
   ·rcases f3 with f3 | f3
    ·exact .inl (t3.trans f3)
    ·exact .inr (.inl (by rw [t3];exact f3.1))
   ·rcases f3 with f3 | f3
    ·exact .inr (.inr ⟨m,f,as,t3,f3.symm.trans t4⟩)
    ·exact absurd t4 (f3.2 f as)
  ·exact ⟨f1,f2,f3.imp id fun h=>.inl h.1⟩
 have hrl:(ranks (l.map (·.op))).length=l.length:=by unfold ranks;rw [(rank_get _ 0 0).1];simp
 have get:∀(j:Nat) i,L[j]? = some i→∃i0,l[j]? = some i0∧i=setS l (ranks (l.map (·.op))) (planIns ops (ranks (l.map (·.op))) j i0):=fun j i hi=>by
  rw [←hL,List.getElem?_map,List.getElem?_zipIdx] at hi
  simp only [Option.map_eq_some_iff] at hi
  obtain ⟨p,hp,rfl⟩:=hi
  obtain ⟨i0,h1,rfl⟩:=hp
  exact ⟨i0,h1,by simp⟩
 have rk:∀(j:Nat) i0,l[j]? = some i0→∃r,(ranks (l.map (·.op)))[j]? = some r∧(makes i0.op=true→∃k,r=some k∧k<n)∧(makes i0.op=false→r=none):=fun j i0 hi0=>by
  have hj:j<l.length:=(List.getElem?_eq_some_iff.1 hi0).1
  have hr:(ranks (l.map (·.op)))[j]? = some ((ranks (l.map (·.op)))[j]'(by omega)):=List.getElem?_eq_getElem _
  refine ⟨_,hr, ?_⟩
  have:=(rank_get (l.map (·.op)) 0 j).2 i0.op _ (by simp [hi0]) (show (ranks.go 0 (l.map (·.op)))[j]? = _ from hr)
  refine ⟨fun hm=>?_,this.2⟩
  obtain ⟨k,k1,k2,k3⟩:=this.1 hm
  exact ⟨k,k1,by rw [←hn];simpa [ranks] using k3⟩
 have getD:∀(j:Nat) r,(ranks (l.map (·.op)))[j]? = some r→(ranks (l.map (·.op))).getD j none=r:=fun j r h=>by
  rw [List.getD_eq_getElem?_getD,h];rfl
 have lt:∀(j k:Nat),(ranks (l.map (·.op))).getD j none=some k→k<n:=fun j k h=>by
  by_cases hj:j<l.length
  ·obtain ⟨r,r1,r2,r3⟩:=rk j _ (List.getElem?_eq_getElem hj)
   rw [getD j r r1] at h
   subst h
   cases hm:makes l[j].op with
   | true=>obtain ⟨k',k1,k2⟩:=r2 hm;simp at k1;omega
   | false=>have:=r3 hm;cases this
  ·rw [List.getD_eq_getElem?_getD,List.getElem?_eq_none (by omega)] at h;cases h
 have hback:=fun A i B h=>ordOk_spec (ops:=ops) ord [] hordk A i B h
 simp only [List.nil_append] at hback
 simp only [permOk,Bool.and_eq_true] at hperm
 obtain ⟨⟨hp1,hp2⟩,hp3⟩:=hperm
 have hnd:=nodupB_spec hp3
 refine ⟨by rw [←hL];simp [hlen],fun i=>⟨fun hi=>by simpa using List.all_eq_true.1 hp1 i hi,fun hi=>by simpa using List.all_eq_true.1 hp2 i (by simpa using hi)⟩,hnd,hback,fun j o i ho hi=>?_,fun j i hi=>?_,fun A i B hAB j hjA x y hx hy w1=>?_,fun j i r hi hr=>?_,fun j i r hi hr=>?_,fun i j x y r hx hy h1 h2=>?_⟩
 ·obtain ⟨i0,h1,rfl⟩:=get j i hi
  obtain ⟨z,hz,f1,f2,f3⟩:=hfrom j i0 h1
  obtain ⟨g1,g2,g3,_⟩:=setS_same l (ranks (l.map (·.op))) (planIns ops (ranks (l.map (·.op))) j i0)
  refine ⟨z,hget0 j o z (by simpa using ho) hz,by rw [g1];exact f1,by rw [g2];exact f2,by rw [g3];exact f3, ?_⟩
  have:=List.all_eq_true.1 hnoS z (List.mem_of_getElem? hz)
  simpa using this
 ·have hi':=hi
  obtain ⟨i0,h1,rfl⟩:=get j i hi
  obtain ⟨r,r1,r2,r3⟩:=rk j i0 h1
  obtain ⟨g1,g2,g3,g4⟩:=setS_same l (ranks (l.map (·.op))) (planIns ops (ranks (l.map (·.op))) j i0)
  refine ⟨fun hk=>?_,fun hm=>?_,fun hm=>(homesS_spec hhome hi' hm).imp fun _ h=>h.1⟩
  ·rw [g3] at hk
   rw [g4]
   have:¬(kind i0.op=.r∨kind i0.op=.w∨kind i0.op=.n∨kind i0.op=.c):=by
    have hk':kind i0.op=.p∨kind i0.op=.a∨kind i0.op=.s:=hk
    rcases hk' with h | h | h<;>rw [h]<;>simp
   simp only [planIns,if_neg this]
  ·rw [g3] at hm
   obtain ⟨k,k1,k2⟩:=r2 hm
   have hno:isS i0.op=false:=by
    cases h:isS i0.op with
    | false=>rfl
    | true=>have:=(isS_kind h).2;rw [show makes i0.op=true from hm] at this;cases this
   rw [setS_no (i:=planIns ops (ranks (l.map (·.op))) j i0) hno]
   exact ⟨k,by simp only [planIns];rw [getD j r r1,k1]⟩
 ·have hx':=hx
  have hy':=hy
  obtain ⟨x0,hx0,rfl⟩:=get j x hx
  obtain ⟨y0,hy0,rfl⟩:=get i y hy
  obtain ⟨gx1,gx2,gx3,gx4⟩:=setS_same l (ranks (l.map (·.op))) (planIns ops (ranks (l.map (·.op))) j x0)
  obtain ⟨gy1,gy2,gy3,gy4⟩:=setS_same l (ranks (l.map (·.op))) (planIns ops (ranks (l.map (·.op))) i y0)
  have hpair:=pairsOk_spec (ops:=ops) (L:=l) ord [] hpairs A i B hAB j (by simpa using hjA)
  unfold pairOk at hpair
  rw [w1,hx0,hy0] at hpair
  simp only [Bool.false_or,Bool.and_eq_true] at hpair
  have hji:j≠i:=fun e=>by
   subst e
   rw [hAB] at hnd
   exact (List.nodup_append.1 hnd).2.2 j hjA j List.mem_cons_self rfl
  have w2:waits ops ops.size j i=false:=by
   cases hw:waits ops ops.size j i with
   | false=>rfl
   | true=>
     exfalso
     obtain ⟨A1,A2,rfl⟩:=List.append_of_mem hjA
     have:=waits_ahead hback _ _ _ hw A1 (A2++i::B) (by rw [hAB];simp)
     rw [hAB] at hnd
     exact (List.nodup_append.1 hnd).2.2 i (List.mem_append_left _ this) i List.mem_cons_self rfl
  have hm:∀{a b:Nat} {a0:zIn} {r:Nat},l[a]? = some a0→a≠b→waits ops ops.size b a=false→(ranks (l.map (·.op))).getD a none=some r→r∈(List.range (ranks (l.map (·.op))).length).filterMap fun c=>if c≠b∧!waits ops ops.size b c then (ranks (l.map (·.op))).getD c none else none:=fun {a b a0 r} ha hab hw hr=>by
   have hal:a<(ranks (l.map (·.op))).length:=by
    rw [hrl];exact (List.getElem?_eq_some_iff.1 ha).1
   exact List.mem_filterMap.2 ⟨a,List.mem_range.2 hal,by rw [if_pos ⟨hab,by simpa using hw⟩];exact hr⟩
  have apart:∀{a b a' b':zIn},a.dst=a'.dst→a.guard=a'.guard→a.op=a'.op→b.dst=b'.dst→b.guard=b'.guard→b.op=b'.op→apartA a' b'=true→apartA a b=true:=fun {a b a' b'} e1 e2 e3 e4 e5 e6 h=>by
   unfold apartA zIn.looks at h⊢
   rw [e1,e2,e3,e4,e5,e6];exact h
  have noR:∀{k:Kind},k=.r∨k=.w∨k=.n∨k=.c→k=.p∨k=.a∨k=.s→False:=fun h h'=>by
   rcases h with h | h | h | h<;>rw [h] at h'<;>simp at h'
  refine ⟨apart gx1 gx2 gx3 gy1 gy2 gy3 hpair.1,by rw [gx3,gy3];exact hpair.2,fun hk r hr=>?_,fun hk r hr=>?_,fun r h1 h2=>?_⟩
  ·cases hS:isS x0.op with
   | true=>
     rcases (sepS_spec hsepS hx' hy' hji w2 w1 (by rw [gx3];exact hS) hr).2 with h | h
     ·exact h
     ·exact (noR hk h).elim
   | false=>
     rw [setS_no (i:=planIns ops (ranks (l.map (·.op))) j x0) hS] at hr
     rw [gy3] at hk
     rw [gy4]
     simp only [planIns] at hr hk⊢
     rw [if_pos hk]
     exact hm hx0 hji w1 hr
  ·cases hS:isS y0.op with
   | true=>
     rcases (sepS_spec hsepS hy' hx' (Ne.symm hji) w1 w2 (by rw [gy3];exact hS) hr).2 with h | h
     ·exact h
     ·exact (noR hk h).elim
   | false=>
     rw [setS_no (i:=planIns ops (ranks (l.map (·.op))) i y0) hS] at hr
     rw [gx3] at hk
     rw [gx4]
     simp only [planIns] at hr hk⊢
     rw [if_pos hk]
     exact hm hy0 (Ne.symm hji) w2 hr
  ·cases hSx:isS x0.op with
   | true=>exact (sepS_spec hsepS hx' hy' hji w2 w1 (by rw [gx3];exact hSx) h1).1 h2
   | false=>
     cases hSy:isS y0.op with
     | true=>exact (sepS_spec hsepS hy' hx' (Ne.symm hji) w1 w2 (by rw [gy3];exact hSy) h2).1 h1
     | false=>
       rw [setS_no (i:=planIns ops (ranks (l.map (·.op))) j x0) hSx] at h1
       rw [setS_no (i:=planIns ops (ranks (l.map (·.op))) i y0) hSy] at h2
       simp only [planIns] at h1 h2
       obtain ⟨r1,g1,_⟩:=rk j x0 hx0
       obtain ⟨r2,g2,_⟩:=rk i y0 hy0
       rw [getD j r1 g1] at h1
       rw [getD i r2 g2] at h2
       subst h1 h2
       exact hji (rank_inj (l.map (·.op)) 0 j i r (by simpa [ranks] using g1) (by simpa [ranks] using g2)).1
 ·have hi':=hi
  obtain ⟨i0,h1,rfl⟩:=get j i hi
  obtain ⟨g1,g2,g3,g4⟩:=setS_same l (ranks (l.map (·.op))) (planIns ops (ranks (l.map (·.op))) j i0)
  cases hS:isS i0.op with
  | true=>
    obtain ⟨r',e,hlt⟩:=homesS_spec hhome hi' (by rw [g3];exact hS)
    rw [e] at hr;cases hr
    rw [←hn];exact hlt
  | false=>
    rw [setS_no (i:=planIns ops (ranks (l.map (·.op))) j i0) hS] at hr
    exact lt j r hr
 ·obtain ⟨i0,h1,rfl⟩:=get j i hi
  rw [(setS_same l (ranks (l.map (·.op))) (planIns ops (ranks (l.map (·.op))) j i0)).2.2.2] at hr
  simp only [planIns] at hr
  split at hr
  ·obtain ⟨c,hc1,hc2⟩:=List.mem_filterMap.1 hr
   split at hc2
   ·exact lt c r hc2
   ·cases hc2
  ·simp at hr
 ·obtain ⟨x0,hx0,rfl⟩:=get i x hx
  obtain ⟨y0,hy0,rfl⟩:=get j y hy
  have made:∀{z0:zIn} {k:Nat},(setS l (ranks (l.map (·.op))) (planIns ops (ranks (l.map (·.op))) k z0)).made=some r→(planIns ops (ranks (l.map (·.op))) k z0).dest=some r:=fun {z0 k} h=>by
   unfold zIn.made at h
   rw [(setS_same l (ranks (l.map (·.op))) (planIns ops (ranks (l.map (·.op))) k z0)).2.2.1] at h
   cases hS:isS z0.op with
   | true=>rw [show isS (planIns ops (ranks (l.map (·.op))) k z0).op=true from hS] at h;cases h
   | false=>
     rw [show isS (planIns ops (ranks (l.map (·.op))) k z0).op=false from hS] at h
     rw [setS_no (i:=planIns ops (ranks (l.map (·.op))) k z0) hS] at h
     exact h
  replace h1:=made h1
  replace h2:=made h2
  simp only [planIns] at h1 h2
  obtain ⟨r1,g1,_⟩:=rk i x0 hx0
  obtain ⟨r2,g2,_⟩:=rk j y0 hy0
  rw [getD i r1 g1] at h1
  rw [getD j r2 g2] at h2
  subst h1 h2
  exact (rank_inj (l.map (·.op)) 0 i j r (by simpa [ranks] using g1) (by simpa [ranks] using g2)).1
theorem drawn_plan {ops:Array Oper} {n:Nat} {M:List zIn} (h:trDrawn P pureF ops=some (.drawn n M)):∃ord L,Plan P pureF ops n ord L∧M=ord.map fun j=>L.getD j default:=by
 unfold trDrawn at h
 split at h
 ·rename_i c hc
  cases h
  exact drawn_plan0 hc
 ·exact drawn_plan0 h
theorem made_dest {i:zIn} {r:Nat} (h:i.made=some r):i.dest=some r:=by
 unfold zIn.made at h
 split at h
 ·cases h
 ·exact h
end
section
variable {P:Program} {pf pureF:FuncId→Bool} {C:CallF} {ds:List Deferred} {ro:Option Nat}
structure Todo (ops:Array Oper) (ord:List Nat) (listed:Array Bool) (τ:List Nat):Prop where
 mem:∀i,i∈τ↔i<ops.size∧listed.getD i true=false
 sub:τ.Sublist ord
 size:listed.size=ops.size
 closed:∀(i:Nat) o,ops[i]? = some o→listed.getD i false=true→∀e∈o.after.toList,Region.binds .any e=true→listed.getD e.on false=true
theorem getD_both {listed:Array Bool} {i n:Nat} (hs:listed.size=n) (hi:i<n):listed.getD i false=listed.getD i true:=by
 rw [Array.getD_eq_getD_getElem?,Array.getD_eq_getD_getElem?,Array.getElem?_eq_getElem (by omega)]
 rfl
theorem drawn_any (hC:CallOk (Prg.mk P pf) C) {ops:Array Oper} {n:Nat} {ord:List Nat} {L:List zIn} (pl:Plan P pureF ops n ord L) {N base:Nat} {Q:Exit→Act→World→Prop} (fr':Nat→Value) (H':zH) (W:Nat→Prop) (lim:Nat) (hlb:lim≤base) (σ0:Sig) (H0:zH) (w0:World)
  (hQ:∀a w σ,State (Prg.mk P pf) ds W lim σ N fr' H' a w→Stp W w0 w→Sig.le σ0 σ→Grow lim H0 H'→(∀j,σ j≠σ0 j→base≤j)→H0.length≤H'.length→Q .normal a w) :
  ∀(fuel:Nat) (listed:Array Bool) (τ:List Nat) (fr:Nat→Value) (H:zH) (a:Act) (w:World) (σ:Sig),τ.length=fuel→Todo ops ord listed τ→State (Prg.mk P pf) ds W lim σ N fr H a w→Stp W w0 w→Sig.le σ0 σ→Grow lim H0 H→(∀j,σ j≠σ0 j→base≤j)→H0.length≤H.length→
   Kept σ H base n (τ.filterMap fun i=>(L.getD i default).made)→dOps C N lim (some base) (τ.map fun i=>L.getD i default) fr H=some (fr',H')→wpAnyIn (WF ro) 0 P .any ops Q fuel listed a w
 | 0,listed,τ,fr,H,a,w,σ,hf,ht,hst,h1,h2,h3,h4,h5,hk,hx=>by
   have hτ:τ=[]:=List.length_eq_zero_iff.1 hf
   subst hτ
   simp [dOps] at hx
   obtain ⟨rfl,rfl⟩:=hx
   refine ⟨?_,hQ a w σ hst h1 h2 h3 h4 h5⟩
   rw [List.eq_nil_iff_forall_not_mem]
   intro i hi
   have:=ready_iff.1 hi
   have:=(ht.mem i).2 ⟨this.1,this.2.1⟩
   cases this
 | fuel+1,listed,τ,fr,H,a,w,σ,hf,ht,hst,h1,h2,h3,h4,h5,hk,hx=>by
   refine ⟨fun hr=>?_,fun i hi=>?_⟩
   ·
    exfalso
    cases τ with
    | nil=>simp at hf
    | cons t τ=>
      have htm:=(ht.mem t).1 List.mem_cons_self
      have:t∈Region.ready .any ops listed:=ready_iff.2 ⟨htm.1,htm.2,fun o ho e he hb=>by
       cases hc:listed.getD e.on true with
       | true=>rw [getD_both ht.size ((pl.mem _).1 (by
         obtain ⟨r1,r2,hr12,h1,h2⟩:=List.cons_sublist_iff.1 ht.sub
         obtain ⟨u,v,rfl⟩:=List.append_of_mem h1
         have:=pl.back u t (v++r2) (by rw [hr12];simp) o ho e he hb
         rw [hr12];simp [this]))];exact hc
       | false=>
         exfalso
         obtain ⟨r1,r2,hr12,h1,h2⟩:=List.cons_sublist_iff.1 ht.sub
         obtain ⟨u,v,rfl⟩:=List.append_of_mem h1
         have hu:=pl.back u t (v++r2) (by rw [hr12];simp) o ho e he hb
         have heo:e.on<ops.size:=(pl.mem _).1 (by rw [hr12];simp [hu])
         have hnd:=pl.nodup
         rw [hr12,List.append_assoc] at hnd
         have hd:=(List.nodup_append.1 hnd).2.2 e.on hu
         have hm:=(ht.mem e.on).2 ⟨heo,hc⟩
         rcases List.mem_cons.1 hm with h | h
         ·exact hd t (by simp) h
         ·exact hd e.on (by simp [h2.subset h]) rfl⟩
      rw [hr] at this
      cases this
   ·obtain ⟨r1,r2,r3⟩:=ready_iff.1 hi
    have him:=(ht.mem i).2 ⟨r1,r2⟩
    obtain ⟨A,B,rfl⟩:=List.append_of_mem him
    have hiL:i<L.length:=by rw [pl.len];exact r1
    have hLi:L[i]? = some (L.getD i default):=by rw [List.getD_eq_getElem?_getD,List.getElem?_eq_getElem hiL];rfl
    have hsplit:∃A1 B1,ord=A1++i::B1∧A.Sublist A1:=by
     obtain ⟨r1,r2,h1,h2,h3⟩:=List.append_sublist_iff.1 ht.sub
     obtain ⟨s1,s2,h4,h5,h6⟩:=List.cons_sublist_iff.1 h3
     obtain ⟨u,v,rfl⟩:=List.append_of_mem h5
     exact ⟨r1++u,v++s2,by rw [h1,h4];simp,h2.trans (List.sublist_append_left _ _)⟩
    obtain ⟨A1,B1,hord,hAs⟩:=hsplit
    have hndτ:(A++i::B).Nodup:=ht.sub.nodup pl.nodup
    have hA:∀b∈A,Planned (L.getD b default)∧Sep (L.getD b default) (L.getD i default):=fun b hb=>by
     have hbm:=(ht.mem b).1 (List.mem_append_left _ hb)
     have hbL:b<L.length:=by rw [pl.len];exact hbm.1
     have hLb:L[b]? = some (L.getD b default):=by rw [List.getD_eq_getElem?_getD,List.getElem?_eq_getElem hbL];rfl
     refine ⟨pl.planned b _ hLb,pl.sep A1 i B1 hord b (hAs.subset hb) _ _ hLb hLi ?_⟩
     cases hw:waits ops ops.size i b with
     | false=>rfl
     | true=>
       exfalso
       have key:∀m,waits ops m i b=true→listed.getD b false=true:=by
        intro m hm
        cases m with
        | zero=>simp [waits] at hm
        | succ m=>
          unfold waits at hm
          split at hm
          ·rename_i o ho
           obtain ⟨e,he,h2⟩:=List.any_eq_true.1 hm
           simp only [Bool.and_eq_true,Bool.or_eq_true,beq_iff_eq] at h2
           have he':=r3 o ho e he h2.1
           rcases h2.2 with h3 | h3
           ·rw [←h3];exact he'
           ·exact waits_listed ht.closed m e.on b he' h3
          ·cases hm
       have:=key _ hw
       rw [getD_both ht.size hbm.1,hbm.2] at this
       cases this
    have hbub:=bubble (N:=N) (lim:=lim) (base:=base) hC.toCallOk0 (pl.planned i _ hLi) (B.map fun i=>L.getD i default) (A.map fun i=>L.getD i default) fr H _ hst.lim (fun r hr=>by have:=pl.dest i _ r hLi hr;have:=hk.len;omega) (fun x hx=>by
     obtain ⟨b,hb,rfl⟩:=List.mem_map.1 hx
     refine ⟨hA b hb,fun r hr=>?_⟩
     have hbm:=(ht.mem b).1 (List.mem_append_left _ hb)
     have hbL:b<L.length:=by rw [pl.len];exact hbm.1
     have hLb:L[b]? = some (L.getD b default):=by rw [List.getD_eq_getElem?_getD,List.getElem?_eq_getElem hbL];rfl
     have:=pl.dest b _ r hLb hr
     have:=hk.len
     omega) (by simpa using hx)
    obtain ⟨fr1,H1,hx1,hx2⟩:=dOps_cons hbub
    have hops:ops[i]? = some ops[i]:=Array.getElem?_eq_getElem r1
    obtain ⟨i0,ht0,e1,e2,e3,e4⟩:=pl.ins i _ _ hops hLi
    refine dins_wp hC hops ht0 ⟨e1,e2,e3⟩ e4 hst hlb hk (fun r hr=>⟨List.mem_filterMap.2 ⟨i,him,hr⟩,pl.dest i _ r hLi (made_dest hr)⟩) (fun r hr=>pl.mask i _ r hLi hr) hx1 fun σ' a' w' q1 q2 q3 q4 q5 q6 q7=>?_
    have hnotA:i∉A:=fun h=>(List.nodup_append.1 hndτ).2.2 i h i List.mem_cons_self rfl
    have hnotB:i∉B:=(List.nodup_cons.1 (List.nodup_append.1 hndτ).2.1).1
    have hset:∀j,(listed.setIfInBounds i true).getD j true=if j=i then true else listed.getD j true:=fun j=>by
     rw [Array.getD_eq_getD_getElem?,Array.getD_eq_getD_getElem?]
     by_cases hj:j=i
     ·subst hj
      rw [if_pos rfl,Array.getElem?_setIfInBounds_self_of_lt (by rw [ht.size];exact r1)];rfl
     ·rw [if_neg hj,Array.getElem?_setIfInBounds_ne (fun h=>hj h.symm)]
    have hset':∀j,(listed.setIfInBounds i true).getD j false=if j=i then true else listed.getD j false:=fun j=>by
     rw [Array.getD_eq_getD_getElem?,Array.getD_eq_getD_getElem?]
     by_cases hj:j=i
     ·subst hj
      rw [if_pos rfl,Array.getElem?_setIfInBounds_self_of_lt (by rw [ht.size];exact r1)];rfl
     ·rw [if_neg hj,Array.getElem?_setIfInBounds_ne (fun h=>hj h.symm)]
    have ht':Todo ops ord (listed.setIfInBounds i true) (A++B):=by
     refine ⟨fun j=>?_, ?_,by simpa using ht.size,fun j o ho hl e he hb=>?_⟩
     ·have hm:=ht.mem j
      rw [hset]
      constructor
      ·intro hj
       have hj2:j∈A++i::B:=by
        rcases List.mem_append.1 hj with h | h
        ·exact List.mem_append_left _ h
        ·exact List.mem_append_right _ (List.mem_cons_of_mem _ h)
       obtain ⟨g1,g2⟩:=hm.1 hj2
       have hne:j≠i:=fun e=>by
        subst e
        rcases List.mem_append.1 hj with h | h
        ·exact hnotA h
        ·exact hnotB h
       exact ⟨g1,by rw [if_neg hne];exact g2⟩
      ·rintro ⟨g1,g2⟩
       by_cases hne:j=i
       ·rw [if_pos hne] at g2;cases g2
       ·rw [if_neg hne] at g2
        have:=hm.2 ⟨g1,g2⟩
        rcases List.mem_append.1 this with h | h
        ·exact List.mem_append_left _ h
        ·rcases List.mem_cons.1 h with h | h
         ·exact absurd h hne
         ·exact List.mem_append_right _ h
     ·exact (List.Sublist.append_left (List.sublist_cons_self i B) A).trans ht.sub
     ·rw [hset'] at hl⊢
      by_cases hj:j=i
      ·subst hj
       have:=r3 o ho e he hb
       split
       ·rfl
       ·exact this
      ·rw [if_neg hj] at hl
       have:=ht.closed j o ho hl e he hb
       split
       ·rfl
       ·exact this
    refine drawn_any hC pl fr' H' W lim hlb σ0 H0 w0 hQ fuel _ (A++B) fr1 H1 a' w' σ' (by simp at hf⊢;omega) ht' q1 (h1.trans q2) (Sig.le_trans h2 q3) (h3.trans q4) (fun j hj=>?_) (by omega) ⟨q5.len,q5.own,fun r hr=>q5.free r ?_,fun r hr=>?_⟩ (by simpa using hx2)
    ·apply Classical.byContradiction
     intro hc
     have e1:σ j=σ0 j:=Classical.byContradiction fun e=>hc (h4 j e)
     rcases q6 j (fun e=>hj (e.trans e1)) with ⟨r,_,h⟩ | h
     ·omega
     ·have:=hk.len;omega
    ·obtain ⟨b,hb,hbr⟩:=List.mem_filterMap.1 hr
     refine List.mem_filter.2 ⟨List.mem_filterMap.2 ⟨b, ?_,hbr⟩, ?_⟩
     ·rcases List.mem_append.1 hb with h | h
      ·exact List.mem_append_left _ h
      ·exact List.mem_append_right _ (List.mem_cons_of_mem _ h)
     ·simp only [ne_eq,decide_not,Bool.not_eq_true',decide_eq_false_iff_not]
      intro hir
      have hbm:b∈A++i::B:=by
       rcases List.mem_append.1 hb with h | h
       ·exact List.mem_append_left _ h
       ·exact List.mem_append_right _ (List.mem_cons_of_mem _ h)
      have hbL:b<L.length:=by rw [pl.len];exact ((ht.mem b).1 hbm).1
      have hLb:L[b]? = some (L.getD b default):=by rw [List.getD_eq_getElem?_getD,List.getElem?_eq_getElem hbL];rfl
      have:=pl.inj b i _ _ r hLb hLi hbr hir
      subst this
      rcases List.mem_append.1 hb with h | h
      ·exact hnotA h
      ·exact hnotB h
    ·obtain ⟨b,hb,hbr⟩:=List.mem_filterMap.1 hr
     have hbm:b∈A++i::B:=by
      rcases List.mem_append.1 hb with h | h
      ·exact List.mem_append_left _ h
      ·exact List.mem_append_right _ (List.mem_cons_of_mem _ h)
     have hbL:b<L.length:=by rw [pl.len];exact ((ht.mem b).1 hbm).1
     have hLb:L[b]? = some (L.getD b default):=by rw [List.getD_eq_getElem?_getD,List.getElem?_eq_getElem hbL];rfl
     exact pl.dest b _ r hLb (made_dest hbr)
end
end Go.AM

