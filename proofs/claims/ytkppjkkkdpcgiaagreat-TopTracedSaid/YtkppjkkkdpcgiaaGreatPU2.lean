/-
  Joined texts, 2 of 10. A part of the claim that the last text states.
-/
import Derived.ChangeKeysEq
import Derived.RangeFuncRecord
import Derived.OrdersIn
import Derived.Test.YtkppjkkkdpcgiaaGreatPU1
set_option linter.unusedVariables false
set_option linter.unusedSimpArgs false
set_option linter.defProp false
set_option linter.unusedSectionVars false
set_option maxRecDepth 100000
set_option maxHeartbeats 4000000
namespace Go.AM
open Go.MapKept
section
variable {P:Program} {Pg:Prg} {W:Nat->Prop} {lim:Nat} {σ:PH} {H H':NA} {w:World} {dest:Option Nat} {ρ ρ':Operand->Value} {v:Value}
theorem OC.wrote (a:Inv Pg W lim σ H w) {run:Result Next} {nx:Next} {v':Value} {w':World} (hr:run=.ok nx w') (hn:Nin nx=some v') (hv:VRel σ v v') (hi:Inv Pg W lim σ H' w') (hs:Stp W w w') (hl:H'.length=H.length) :
  OC Pg W lim σ dest H w run v H':=⟨nx,w',σ,v',hr,hn,hv,hi,hs,PH.le_refl σ,fun j b=>absurd rfl b,by omega,fun _=>hl⟩
theorem Vy {l:List Operand} (h:∀x∈l,VRel σ (ρ x) (ρ' x)):OG σ (l.map ρ) (l.map ρ'):=OG.map l ρ ρ' h
theorem Niw {b:Array TypeId} {ty t:TypeId} {x:Value} (h0:b[0]? = some t) :
  (P.underlying t=some .string->∀s,x=.string s->(Builtin.len_ b ty #[x]).run P w=.ok (.int .i64 s.size) w)/\
  ((∃e,P.underlying t=some (.slice e))->∀a n c,x=.slice a n c->(Builtin.len_ b ty #[x]).run P w=.ok (.int .i64 n) w)/\
  (∀n e,P.underlying t=some (.array n e)->(Builtin.len_ b ty #[x]).run P w=.ok (.int .i64 n) w):=by
 refine ⟨fun d s hx=>?_,fun ⟨e,d⟩ a n c hx=>?_,fun n e d=>?_⟩
 ·subst hx;simp [Builtin.len_,h0,run_underlying d,goInt]
 ·subst hx;simp [Builtin.len_,h0,run_underlying d,goInt]
 ·cases x<;>simp [Builtin.len_,h0,run_underlying d,goInt]
theorem RF (b:Builtin) (a:Array TypeId) (ty:TypeId) (cs:Array Bool) (args:Array Value) (s:Sem Value) {x:Value} {w':World} (c:builtin b a ty cs args=(do pure (.value (<-s)))) (h:s.run P w=.ok x w') :
  (builtin b a ty cs args).run P w=.ok (.value x) w':=by
 rw [c];simp [h]
theorem Nja (o:Oper) (c:Call) (b:Builtin) (ho:o.op=.call c) (hc:c.callee=.builtin b) :
  execOp ρ' o=builtin b c.argTypes o.type (c.args.map fun | .const _=>true | _=>false) (c.args.map ρ'):=by
 simp only [execOp,ho,resolve,hc]
 rfl
theorem WZ {a:Array Operand} {x:Operand} (h:a.toList=[x]):a.map ρ'=#[ρ' x]:=by
 apply Array.ext';simp [h]
theorem Nfi {a:Array Operand} {x y:Operand} (h:a.toList=[x,y]):a.map ρ'=#[ρ' x,ρ' y]:=by
 apply Array.ext';simp [h]
theorem WH {a:Array TypeId} {t:TypeId} {l:List TypeId} (h:a.toList=t::l):a[0]? = some t:=by
 rw [<-Array.getElem?_toList,h];rfl
theorem Np5 (l:Inv Pg W lim σ H w) {dt e ty:TypeId} {A:Array TypeId} (r:A[0]? = some dt) (J:P.underlying dt=some (.slice e)) {esz:Nat} (u:PG P e=some esz) {d x:Operand} (hd:VRel σ (ρ d) (ρ' d)) (o:VRel σ (ρ x) (ρ' x))
  (hx:NJ lim dest (.copy esz d x) ρ H=some (v,H')):∃w' v',(Builtin.copy_ A ty #[ρ' d,ρ' x]).run P w=.ok v' w'/\VRel σ v v'/\Inv Pg W lim σ H' w'/\Stp W w w'/\H'.length=H.length:=by
 simp only [NJ] at hx
 split at hx
 case h_2=>cases hx
 rename_i base dl X sl C i
 have read:∀cs,Uf H esz (min sl dl) (ρ x)=some cs->
   ∃cs',(Builtin.lenOf (ρ' x)).run P w=.ok sl w/\(Builtin.firstCells esz (min sl dl) (ρ' x)).run P w=.ok cs'.toArray w/\OG σ cs cs'/\(∀y∈cs',y.oneCell'=true):=by
  intro cs f
  cases hxx:ρ x with
  | slice a n c=>
    rw [hxx] at f o i
    simp [lenOf] at i;subst i
    cases a with
    | none=>
      obtain ⟨rfl,rfl,h2⟩:=o.nilslice_left
      simp [Uf] at f;subst f
      rw [h2]
      exact ⟨[],by simp [Builtin.lenOf],by simp [Builtin.firstCells],OG.nil,fun y z=>by simp at z⟩
    | some a=>
      simp only [Uf] at f
      obtain ⟨G,L,hL,hc⟩:=o.slice_left
      have q:∀p,ρ' x=.slice (some ⟨L.blk,L.base+a.off,none⟩) n p->∃cs',(Builtin.lenOf (ρ' x)).run P w=.ok n w/\(Builtin.firstCells esz (min n dl) (ρ' x)).run P w=.ok cs'.toArray w/\OG σ cs cs'/\(∀y∈cs',y.oneCell'=true):=by
       intro p g
       obtain ⟨Q,h1,h2,K,N⟩:=Na3 (P:=P) l hL f
       exact ⟨Q,by rw [g];simp [Builtin.lenOf],by rw [g];simpa [Builtin.firstCells] using h1,h2,N⟩
      rcases hc with ⟨_,g⟩ | ⟨Y,_,p,_,_,g⟩ | ⟨a',_,h0,g⟩
      ·exact q _ g
      ·exact q _ g
      ·subst h0
       have D:cs=[]:=by
        unfold AM.loadCells at f
        split at f
        ·split at f
         ·simp at f;exact f
         ·cases f
        ·cases f
       subst D
       have h0:(Go.loadCells a' 0).run P w=.ok #[] w:=by simpa using run_loadCells_list (P:=P) w a' [] (by simp)
       exact ⟨[],by rw [g];simp [Builtin.lenOf],by rw [g];simpa [Builtin.firstCells] using h0,OG.nil,fun y z=>by simp at z⟩
  | string s=>
    rw [hxx] at f o i
    simp [lenOf] at i;subst i
    simp only [Uf] at f
    split at f
    case isFalse=>cases f
    rename_i O
    cases f
    rw [o.string_left]
    refine ⟨_,by simp [Builtin.lenOf], ?_,OG.refl_of fun y z=>?_,fun y z=>?_⟩
    ·simp only [Builtin.firstCells,Sem.run_pure]
     congr 1
     apply Array.ext'
     simp only [Array.toList_map,ByteArray.data_extract,Array.toList_extract]
     simp [List.extract]
    ·obtain ⟨b,_,rfl⟩:=List.mem_map.1 z;exact .atom rfl
    ·obtain ⟨b,_,rfl⟩:=List.mem_map.1 z;rfl
  | _=>rw [hxx] at i;simp [lenOf] at i
 cases f:Uf H esz (min sl dl) (ρ x) with
 | none=>rw [f] at hx;cases hx
 | some cs=>
 rw [f] at hx
 cases base with
 | some a=>
   simp only at hx
   obtain ⟨cs',E,r2,r3,M⟩:=read cs f
   rw [C] at hd
   obtain ⟨G,L,hL,hc⟩:=hd.slice_left
   by_cases k:min sl dl=0
   ·rw [Nh k] at hx
    cases hx
    have B:cs=[]:=by
     rw [k] at f
     unfold Uf at f
     split at f
     ·split at f
      ·cases f;rfl
      ·cases f
     ·simp only [Qq] at f
      unfold AM.loadCells at f
      split at f
      ·split at f
       ·simp at f;exact f
       ·cases f
      ·cases f
     ·split at f
      ·simp at f;exact f
      ·cases f
     ·cases f
    subst B
    have t:cs'=[]:=by have:=r3.1;simpa using this.symm
    subst t
    have j:∃b' p,ρ' d=.slice (some b') dl p:=by
     rcases hc with ⟨_,h⟩ | ⟨_,_,_,_,_,h⟩ | ⟨_,_,h0,h⟩
     ·exact ⟨_,_,h⟩
     ·exact ⟨_,_,h⟩
     ·rw [h0];exact ⟨_,_,h⟩
    obtain ⟨b',p,j⟩:=j
    refine ⟨w,.int .i64 0, ?_,.atom rfl,l,Stp.refl _ _,rfl⟩
    rw [j]
    have m:Nat.min sl dl=0:=k
    rw [k] at r2
    simp [Builtin.copy_,r,run_underlying J,E,RI u,m,r2,storeCells,goInt]
   ·rw [Ng k] at hx
    simp only [Nb,Prod.mk.injEq] at hx
    obtain ⟨V,I,rfl,rfl⟩:=hx
    obtain ⟨w',R,S,T,U⟩:=l.store (P:=P) hL I r3 M
    have j:∃p,ρ' d=.slice (some ⟨L.blk,L.base+a.off,none⟩) dl p:=by
     rcases hc with ⟨_,h⟩ | ⟨_,_,_,_,_,h⟩ | ⟨_,_,h0,h⟩
     ·exact ⟨_,h⟩
     ·exact ⟨_,h⟩
     ·rw [h0] at k;simp at k
    obtain ⟨p,j⟩:=j
    refine ⟨w',.int .i64 (min sl dl:Nat), ?_,.atom rfl,S,T,U⟩
    rw [j]
    have m:Nat.min sl dl=min sl dl:=rfl
    simp [Builtin.copy_,r,run_underlying J,E,RI u,m,r2,R,goInt]
 | none=>
   simp only at hx
   split at hx
   case isFalse=>cases hx
   rename_i F
   cases hx
   obtain ⟨cs',E,r2,r3,M⟩:=read cs f
   rw [C] at hd
   obtain ⟨h1,h2,K⟩:=hd.nilslice_left
   refine ⟨w,.int .i64 0, ?_,.atom rfl,l,Stp.refl _ _,rfl⟩
   rw [K]
   subst F
   have m:Nat.min sl 0=0:=Nat.min_zero sl
   rw [Nat.min_zero] at r2
   simp [Builtin.copy_,r,run_underlying J,E,RI u,r2,goInt]
theorem Nmo (f:Inv Pg W lim σ H w) {dt e ty:TypeId} {o:Array TypeId} (q:o[0]? = some dt) (D:P.underlying dt=some (.slice e)) {z:List Value} (G:zeroOf P e=some z) {x:Operand} (r:VRel σ (ρ x) (ρ' x))
  (hx:NJ lim dest (.clear z x) ρ H=some (v,H')):∃w',(Builtin.clear_ o ty #[ρ' x]).run P w=.ok (.tuple #[]) w'/\v=.tuple #[]/\Inv Pg W lim σ H' w'/\Stp W w w'/\H'.length=H.length:=by
 simp only [NJ] at hx
 split at hx
 case h_2=>cases hx
 rename_i a n c B
 obtain ⟨i,b,hi,C,rfl,l⟩:=TV G
 rw [B] at r
 obtain ⟨F,L,hL,hc⟩:=r.slice_left
 have t:(zeroValue e).run P w=.ok b w:=by simp [zeroValue,typeInfo,hi,C]
 by_cases h0:n=0
 ·rw [Nh h0] at hx
  cases hx
  subst h0
  have d:∃b' p,ρ' x=.slice (some b') 0 p:=by
   rcases hc with ⟨_,h⟩ | ⟨_,_,_,_,_,h⟩ | ⟨_,_,h0,h⟩
   ·exact ⟨_,_,h⟩
   ·exact ⟨_,_,h⟩
   ·exact ⟨_,_,h⟩
  obtain ⟨b',p,d⟩:=d
  refine ⟨w, ?_,rfl,f,Stp.refl _ _,rfl⟩
  rw [d]
  simp [Builtin.clear_,q,run_underlying D]
 ·rw [Ng h0] at hx
  simp only [Nb,Prod.mk.injEq] at hx
  obtain ⟨M,A,rfl,rfl⟩:=hx
  have g:∀y∈(List.range (n*b.cells.toList.length)).map (fun j=>b.cells.toList.getD (j % b.cells.toList.length) undef),atom y=true/\y.oneCell'=true:=by
   intro y s
   obtain ⟨j,u,rfl⟩:=List.mem_map.1 s
   have m:=List.mem_range.1 u
   have hp:0<b.cells.toList.length:=by
    rcases Qu b.cells.toList.length with h | h
    ·rw [h] at m;omega
    ·exact h
   have hm:=Pr j hp
   rw [Na,Nf hm]
   exact l _ (P6 hm)
  obtain ⟨w',E,I,J,K⟩:=f.store (P:=P) hL A (OG.refl_of fun y s=>.atom (g y s).1) fun y s=>(g y s).2
  have d:∃p,ρ' x=.slice (some ⟨L.blk,L.base+a.off,none⟩) n p:=by
   rcases hc with ⟨_,h⟩ | ⟨_,_,_,_,_,h⟩ | ⟨_,_,h1,h⟩
   ·exact ⟨_,h⟩
   ·exact ⟨_,h⟩
   ·exact absurd h1 h0
  obtain ⟨p,d⟩:=d
  refine ⟨w', ?_,rfl,I,J,K⟩
  have hl:(Builtin.zeroCells b.cells n).toList=(List.range (n*b.cells.toList.length)).map (fun j=>b.cells.toList.getD (j % b.cells.toList.length) undef):=by
   unfold Builtin.zeroCells
   rw [Array.toList_map,Array.toList_range,Array.length_toList]
   refine Pv fun j u=>?_
   have m:=List.mem_range.1 u
   have hp:0<b.cells.size:=by
    rcases Qu b.cells.size with h | h
    ·rw [h] at m;omega
    ·exact h
   have hm:=Pr j hp
   rw [getElem!_pos b.cells _ hm,Na,Array.getElem?_toList,Ny hm]
   rfl
  generalize (List.range (n*b.cells.toList.length)).map (fun j=>b.cells.toList.getD (j % b.cells.toList.length) undef)=L0 at hl E
  rw [d]
  obtain ⟨k,rfl⟩:∃k,n=k+1:=⟨n-1,by omega⟩
  simp [Builtin.clear_,q,run_underlying D,t,hl,E]
end
section
variable {P:Program} {pureF:FuncId->Bool} {Pg:Prg} {W:Nat->Prop} {lim:Nat} {σ:PH} {H H':NA} {w:World} {dest:Option Nat} {ρ ρ':Operand->Value} {v:Value}
theorem NV {α β:Type} {x:Option α} {f:α->Option β} {b:β} (h:(x >>= f)=some b):∃a,x=some a/\f a=some b:=by
 cases x with
 | none=>cases h
 | some a=>exact ⟨a,rfl,h⟩
theorem Nav (w:World) (st j ty e:TypeId) (i:TypeInfo) (z:Value) {p:IntKind} (ht:P.underlying st=some (.slice e)) (hx:P.underlying j=some (.int p)) (hi:P.info? e=some i) (o:i.zero=some z)
  (h:z.cells.size=i.size) (g:i.size≠0) (k:IntKind) (l:Int) (h0:0<l) (a:l*i.bytes<=140737488355328) (m:l<2 ^ 62) :
  (Builtin.append_ #[st,j] ty #[.slice none 0 0,.int k l]).run P w =
   .ok (.slice (some ⟨w.heap.size,0,none⟩) l.toNat (grownCap w l.toNat 0 e))
    (w.drew.alloc (.cells (madeCells z.cells (l.toNat*i.size)++Builtin.zeroCells z.cells (grownCap w l.toNat 0 e-l.toNat)) e)):=by
 have q:IntKind.i64.wrap l=l:=by rw [IntKind.wrap_i64];omega
 obtain ⟨n,rfl⟩:∃n:Nat,l=n:=⟨l.toNat,by omega⟩
 have n1:¬(n:Int)<0:=by omega
 have d:n*i.bytes<=140737488355328:=by rw [<-Int.natCast_mul] at a;omega
 have n2:¬(281474976710656<(n:Int)*i.bytes):=by omega
 have hn:¬(n=0):=by omega
 have c:¬(9223372036854775807<(n:Int)):=by omega
 have b:¬(281474976710656<Builtin.nextslicecap n 0*i.bytes):=by
  have:=growslice_fits (need:=n) (old:=0) (bytes:=i.bytes) (by omega) d;omega
 have f:¬(n*i.size=0):=by rw [Nat.mul_eq_zero];omega
 simp [Builtin.append_,run_underlying ht,run_underlying hx,asInt,asIntOf,sizeOf,typeInfo,zeroValue,hi,o,q,n1,n2,hn,c,b,f,g,Question.forced,Builtin.firstCells,newRow,grownCap,madeCells,h,Builtin.zeroCells]
theorem Nf5 (f:Inv Pg W lim σ H w) (hd:∀d,dest=some d->d<H.length/\σ d=none) {st Q ty e:TypeId} {U:IntKind} (S:P.underlying st=some (.slice e)) (M:P.underlying Q=some (.int U))
  {esz bytes:Nat} (E:PG P e=some esz) (D:Vb P e=some bytes) {z:List Value} (T:zeroOf P e=some z) (N:z.length=esz) (C:esz≠0) {os x:Operand}
  (hs:VRel σ (ρ os) (ρ' os)) (t:VRel σ (ρ x) (ρ' x)) (hx:NJ lim dest (.growNil esz bytes z os x) ρ H=some (v,H')) {run:Result Next}
  (s:run=((Builtin.append_ #[st,Q] ty #[ρ' os,ρ' x]).run P w).andThen fun v w'=>.ok (.value v) w'):OC Pg W lim σ dest H w run v H':=by
 obtain ⟨i,a,hi,O,rfl,A⟩:=TV T
 obtain ⟨X,q,G⟩:=YJ E
 rw [hi] at q;cases q
 obtain ⟨Y,r,F⟩:=ZP D
 rw [hi] at r;cases r
 subst G F
 have u:a.cells.size=i.size:=by simpa using N
 simp only [NJ] at hx
 split at hx
 case h_2=>cases hx
 rename_i V l L hl
 split at hx
 case isFalse=>cases hx
 rename_i B
 obtain ⟨b1,b2,b3⟩:=B
 cases hp:place dest (.cells false ((List.range (l.toNat*i.size)).map fun j=>a.cells.toList.getD (j % a.cells.toList.length) undef)) H with
 | mk k K=>
 rw [hp] at hx
 cases hx
 rw [L] at hs;rw [hl] at t
 obtain ⟨_,_,J⟩:=hs.nilslice_left
 have R:=Nav (P:=P) w st Q ty e i a S M hi O u C V l b1 (by omega) b3
 have p:=grownCap_ge w l.toNat 0 e
 have b:∀j,VRel σ (a.cells.toList.getD (j % a.cells.toList.length) undef) (a.cells[j % a.cells.size]!)/\(a.cells[j % a.cells.size]!).oneCell'=true:=fun j=>by
  have g:j % a.cells.size<a.cells.size:=Pr _ (by omega)
  have e1:a.cells.toList.getD (j % a.cells.toList.length) undef=a.cells[j % a.cells.size]:=by
   rw [Na,Array.length_toList,Array.getElem?_toList,Ny g];rfl
  have e2:a.cells[j % a.cells.size]! = a.cells[j % a.cells.size]:=by simp [g]
  rw [e1,e2]
  have:=A _ (Array.mem_toList_iff.2 (Array.getElem_mem g))
  exact ⟨.atom this.1,this.2⟩
 have o:(madeCells a.cells (l.toNat*i.size)++Builtin.zeroCells a.cells (grownCap w l.toNat 0 e-l.toNat)).size=grownCap w l.toNat 0 e*i.size:=by
  rw [Array.size_append,size_zeroCells,size_madeCells,u,<-Pw];congr 1;omega
 refine OC.made f hd hp (cs:=madeCells a.cells (l.toNat*i.size)++Builtin.zeroCells a.cells (grownCap w l.toNat 0 e-l.toNat)) (el:=e) (fun j y g=>?_) ?_ f.drew (Stp.drew) (v':=.slice (some ⟨w.heap.size,0,none⟩) l.toNat (grownCap w l.toNat 0 e)) ?_ ?_
 ·rw [O0] at g
  simp only [Nb] at g
  obtain ⟨Z,h,rfl⟩:=g
  have m:j<l.toNat*i.size:=by simpa using (List.getElem?_eq_some_iff.1 h).1
  rw [List.getElem?_range m] at h
  cases h
  refine ⟨a.cells[j % a.cells.size]!, ?_,(b j).1,(b j).2⟩
  rw [Array.getElem?_append_left (by rw [size_madeCells];exact m)]
  simp [madeCells,m]
 ·rw [o];simp only [Nw,Ps];exact O8 _ p
 ·rw [s,J,t.int_left,R];rfl
 ·have I:0+grownCap w l.toNat 0 e*i.size<=(madeCells a.cells (l.toNat*i.size)++Builtin.zeroCells a.cells (grownCap w l.toNat 0 e-l.toNat)).size:=by omega
  have:=VRel.lslice (σ:=σ.put k ⟨w.drew.heap.size,0,(madeCells a.cells (l.toNat*i.size)++Builtin.zeroCells a.cells (grownCap w l.toNat 0 e-l.toNat)).size⟩) (i:=k) (k:=0) (n:=l.toNat) (e:=i.size) (c:=grownCap w l.toNat 0 e) PH.put_same p I
  simpa using this
theorem Nga {J:Bool} {o:Oper} {c:Call} (I:o.op=.call c) {b:Builtin} (T:c.callee=.builtin b) {ao:AOp} (f:Nal P pureF J o=some ao) (g:Inv Pg W lim σ H w)
  (hρ:∀x,PV x=true->VRel σ (ρ x) (ρ' x)) (hd:∀d,dest=some d->d<H.length/\σ d=none) (hx:NJ lim dest ao ρ H=some (v,H')):OC Pg W lim σ dest H w ((execOp ρ' o).run P w) v H':=by
 have l:=Nja (ρ':=ρ') o c b I T
 unfold Nal at f
 split at f
 ·cases f
 rename_i N
 simp only [Bool.not_eq_true,Bool.not_eq_false'] at N
 have j:∀x∈c.args.toList,VRel σ (ρ x) (ρ' x):=fun x hx=>hρ x (Nkx (by simpa using N) (by
  rw [I];simp only [Op.operands,Call.operands,T];simpa using hx))
 rw [I] at f
 simp only [T] at f
 cases b<;>simp only at f<;>try (cases f;done)
 case append=>
  split at f
  case h_2=>cases f
  rename_i s x st xt e1 e2
  have K:c.argTypes=#[st,xt]:=by apply Array.ext';simpa using e2
  have hs:=j s (by simp [e1])
  have i:=j x (by simp [e1])
  have F:∀(ty:TypeId),(execOp ρ' o).run P w=((Builtin.append_ #[st,xt] o.type #[ρ' s,ρ' x]).run P w).andThen fun v w'=>.ok (.value v) w':=by
   intro _
   rw [l,Nfi e1,K]
   simp [builtin]
  split at f
  ·rename_i e e' C D
   obtain ⟨n,hn,f⟩:=NV f
   obtain ⟨bb,A,f⟩:=NV f
   obtain ⟨z,E,f⟩:=NV f
   split at f
   case isFalse=>cases f
   rename_i u
   cases f
   simp only [NJ] at hx
   exact Nae g hd (ty:=o.type) C (str:=false) (by simpa using ⟨_,D⟩) hn A E u hs i hx (F 0)
  ·rename_i e C D
   obtain ⟨n,hn,f⟩:=NV f
   obtain ⟨bb,A,f⟩:=NV f
   obtain ⟨z,E,f⟩:=NV f
   split at f
   case isFalse=>cases f
   rename_i u
   cases f
   simp only [NJ] at hx
   exact Nae g hd (ty:=o.type) C (str:=true) (by simpa using ⟨D,u.2⟩) hn A E u.1 hs i hx (F 0)
  ·rename_i e kd C D
   obtain ⟨n,hn,f⟩:=NV f
   obtain ⟨bb,A,f⟩:=NV f
   obtain ⟨z,E,f⟩:=NV f
   split at f
   case isFalse=>cases f
   rename_i u
   cases f
   exact Nf5 g hd C D hn A E u.1 u.2 hs i hx (F 0)
  ·cases f
 case copy=>
  split at f
  case h_2=>cases f
  rename_i d x dt rest e1 e2
  split at f
  case h_2=>cases f
  rename_i e p
  simp only [Nb] at f
  obtain ⟨n,hn,rfl⟩:=f
  obtain ⟨w',v',O,Q,R,S,q5⟩:=Np5 (P:=P) (ty:=o.type) g (WH e2) p hn (j d (by simp [e1])) (j x (by simp [e1])) hx
  refine OC.wrote g (nx:=.value v') ?_ rfl Q R S q5
  rw [l,Nfi e1]
  exact RF _ _ _ _ _ _ rfl O
 case clear=>
  split at f
  case h_2=>cases f
  rename_i x t rest e1 e2
  split at f
  case h_2=>cases f
  rename_i e p
  simp only [Nb] at f
  obtain ⟨z,E,rfl⟩:=f
  obtain ⟨w',O,rfl,Q,R,S⟩:=Nmo (P:=P) (ty:=o.type) g (WH e2) p E (j x (by simp [e1])) hx
  refine OC.wrote g (nx:=.value (.tuple #[])) ?_ rfl (.atom rfl) Q R S
  rw [l,WZ e1]
  exact RF _ _ _ _ _ _ rfl O
 case delete=>
  split at f
  case h_2=>cases f
  rename_i m k t rest e1 e2
  split at f
  case h_2=>cases f
  rename_i kt e p
  simp only [Nb] at f
  obtain ⟨kk,hk,rfl⟩:=f
  obtain ⟨w',O,Q,R,S,rfl⟩:=Np3 (P:=P) (ty:=o.type) g p hk (j m (by simp [e1])) (j k (by simp [e1])) hx (WH e2)
  refine OC.wrote g (nx:=.value (.tuple #[])) ?_ rfl (.atom rfl) Q R S
  rw [l,Nfi e1]
  exact RF _ _ _ _ _ _ rfl O
 case cap=>
  split at f
  case h_2=>cases f
  rename_i x t e1 e2
  have i:=j x (by simp [e1])
  have h0:c.argTypes[0]? = some t:=WH e2
  split at f
  ·rename_i e p
   cases f
   simp only [NJ] at hx
   split at hx
   case h_2=>cases hx
   rename_i a n cc hs
   split at hx
   case isFalse=>cases hx
   rename_i B
   cases hx
   rw [hs] at i
   have:∃a' n',ρ' x=.slice a' n' cc:=by
    cases a with
    | none=>obtain ⟨rfl,rfl,h⟩:=i.nilslice_left;exact ⟨_,_,h⟩
    | some a=>
      obtain ⟨_,L,_,⟨_,h⟩ | ⟨e',V,_,_,_,h⟩ | ⟨_,U,rfl,h⟩⟩:=i.slice_left
      ·exact ⟨_,_,h⟩
      ·exfalso;rw [V] at B;unfold loose at B;omega
      ·rcases U with rfl | ⟨e',rfl⟩
       ·exact ⟨_,_,h⟩
       ·exfalso;unfold loose at B;omega
   obtain ⟨a',n',h⟩:=this
   refine OC.plain g (v':=.int .i64 cc) ?_ (.atom rfl)
   rw [l,WZ e1]
   refine RF _ _ _ _ _ _ rfl ?_
   rw [h]
   simp [Builtin.cap_,h0,run_underlying p,goInt]
  ·cases f
 case len=>
  split at f
  case h_2=>cases f
  rename_i x t e1 e2
  have i:=j x (by simp [e1])
  have h0:c.argTypes[0]? = some t:=WH e2
  split at f
  ·rename_i p
   cases f
   simp only [NJ] at hx
   split at hx
   case h_2=>cases hx
   rename_i s hs
   cases hx
   rw [hs] at i
   refine OC.plain g (v':=.int .i64 s.size) ?_ (.atom rfl)
   rw [l,WZ e1]
   exact RF _ _ _ _ _ _ rfl ((Niw h0).1 p s i.string_left)
  ·rename_i e p
   cases f
   simp only [NJ] at hx
   split at hx
   case h_2=>cases hx
   rename_i a n cc hs
   cases hx
   rw [hs] at i
   have:∃a' c',ρ' x=.slice a' n c':=by
    cases a with
    | none=>obtain ⟨rfl,rfl,h⟩:=i.nilslice_left;exact ⟨_,_,h⟩
    | some a=>
      obtain ⟨_,L,_,⟨_,h⟩ | ⟨_,_,_,_,_,h⟩ | ⟨_,_,rfl,h⟩⟩:=i.slice_left
      ·exact ⟨_,_,h⟩
      ·exact ⟨_,_,h⟩
      ·exact ⟨_,_,h⟩
   obtain ⟨a',c',h⟩:=this
   refine OC.plain g (v':=.int .i64 n) ?_ (.atom rfl)
   rw [l,WZ e1]
   exact RF _ _ _ _ _ _ rfl ((Niw h0).2.1 ⟨e,p⟩ _ _ _ h)
  ·rename_i k e p
   cases f
   simp only [NJ,Nb,Prod.mk.injEq] at hx
   obtain ⟨es,X,rfl,rfl⟩:=hx
   refine OC.plain g (v':=.int .i64 es.length) ?_ (.atom rfl)
   rw [l,WZ e1]
   refine RF _ _ _ _ _ _ rfl ?_
   rcases g.entries i X with ⟨G,rfl⟩ | ⟨r,L,ents,clock,ab,A,hL,G,hh,M,aa⟩
   ·rw [G];simp [Builtin.len_,h0,run_underlying p,goInt]
   ·rw [G];simp [Builtin.len_,h0,run_underlying p,MapKept.run_getObj_map hh,goInt,M]
  ·rename_i n e p
   cases f
   simp only [NJ] at hx
   cases hx
   refine OC.plain g (v':=.int .i64 n) ?_ (.atom rfl)
   rw [l,WZ e1]
   exact RF _ _ _ _ _ _ rfl ((Niw h0).2.2 n e p)
  ·cases f
 case max=>
  cases f
  simp only [NJ] at hx
  split at hx
  ·cases hx
  rename_i x r q
  simp only [Nb,Prod.mk.injEq] at hx
  obtain ⟨z,E,rfl,rfl⟩:=hx
  obtain ⟨Z,h1,h2⟩:=Vh (P:=P) (w:=w) (σ:=σ) true (r.map ρ) (r.map ρ') (ρ x) (ρ' x) z (j x (by simp [q])) (Vy fun y Y=>j y (by simp [q,Y])) E
  refine OC.plain g (v':=Z) ?_ h2
  rw [l]
  refine RF _ _ _ _ _ _ rfl ?_
  have:(c.args.map ρ').toList=ρ' x::r.map ρ':=by simp [q]
  unfold Builtin.max_
  rw [this]
  exact h1
 case min=>
  cases f
  simp only [NJ] at hx
  split at hx
  ·cases hx
  rename_i x r q
  simp only [Nb,Prod.mk.injEq] at hx
  obtain ⟨z,E,rfl,rfl⟩:=hx
  obtain ⟨Z,h1,h2⟩:=Vh (P:=P) (w:=w) (σ:=σ) false (r.map ρ) (r.map ρ') (ρ x) (ρ' x) z (j x (by simp [q])) (Vy fun y Y=>j y (by simp [q,Y])) E
  refine OC.plain g (v':=Z) ?_ h2
  rw [l]
  refine RF _ _ _ _ _ _ rfl ?_
  have:(c.args.map ρ').toList=ρ' x::r.map ρ':=by simp [q]
  unfold Builtin.min_
  rw [this]
  exact h1
theorem Nvn {ac:Bool} {o:Oper} {ao:AOp} (g:Nal P pureF ac o=some ao) (u:Inv Pg W lim σ H w) (hρ:∀x,PV x=true->VRel σ (ρ x) (ρ' x)) (hd:∀d,dest=some d->d<H.length/\σ d=none)
  (hx:NJ lim dest ao ρ H=some (v,H')):OC Pg W lim σ dest H w ((execOp ρ' o).run P w) v H':=by
 obtain ⟨dst,op,type,pos,after,guard⟩:=o
 by_cases U:∃c,op=.call c
 ·obtain ⟨c,rfl⟩:=U
  by_cases N:∃b,c.callee=.builtin b
  ·obtain ⟨b,N⟩:=N
   exact Nga (o:=⟨dst,.call c,type,pos,after,guard⟩) rfl N g u hρ hd hx
  ·unfold Nal at g
   split at g
   ·cases g
   simp only at g
   cases hc:c.callee with
   | builtin b=>exact absurd ⟨b,hc⟩ N
   | value f=>rw [hc] at g;simp at g;subst g;simp [NJ] at hx
   | invoke r m=>rw [hc] at g;simp at g
 unfold Nal at g
 split at g
 ·cases g
 rename_i ap
 simp only [Bool.not_eq_true,Bool.not_eq_false'] at ap
 have B:∀x∈op.operands,VRel σ (ρ x) (ρ' x):=fun x hx=>hρ x (Nkx (o:=⟨dst,op,type,pos,after,guard⟩) (by simpa using ap) hx)
 cases op<;>(try simp only at g)<;>try (cases g;done)
 case call c=>exact absurd ⟨c,rfl⟩ U
 case move x=>
  cases g;simp only [NJ] at hx;cases hx
  exact OC.plain u (v':=ρ' x) rfl (B x (by simp [Op.operands]))
 case assign x=>
  cases g;simp only [NJ] at hx;cases hx
  exact OC.plain u (v':=ρ' x) rfl (B x (by simp [Op.operands]))
 case pick c a b=>
  cases g;simp only [NJ] at hx
  have hc:=B c (by simp [Op.operands])
  split at hx
  ·rename_i h;cases hx;rw [h] at hc
   exact OC.plain u (v':=ρ' a) (by simp [execOp,hc.bool_left,asBool]) (B a (by simp [Op.operands]))
  ·rename_i h;cases hx;rw [h] at hc
   exact OC.plain u (v':=ρ' b) (by simp [execOp,hc.bool_left,asBool]) (B b (by simp [Op.operands]))
  ·cases hx
 case alloc e=>
  simp only [Nb] at g
  obtain ⟨z,T,rfl⟩:=g
  exact Nmy u hd T hx _ rfl
 case box e x=>
  cases g
  exact Nvc u hd (B x (by simp [Op.operands])) hx _ rfl
 case build t parts=>
  obtain ⟨z,T,g⟩:=NV g
  split at g
  ·rename_i fs E
   obtain ⟨ps,a0,g⟩:=NV g
   split at g
   case isFalse=>cases g
   rename_i ah
   cases g
   exact ZQ u E T a0 ah hρ hx _ rfl
  ·rename_i n e E
   obtain ⟨s,hs,g⟩:=NV g
   cases g
   exact Naa u E T hs (fun x hx=>B x.2 (by simp only [Op.operands];simp;exact ⟨x.1,by simpa using hx⟩)) hx _ rfl
  ·cases g
 case buildSlice t len parts=>
  split at g
  ·rename_i e E
   obtain ⟨s,hs,g⟩:=NV g
   obtain ⟨z,T,g⟩:=NV g
   split at g
   ·cases g
   rename_i D
   cases g
   exact Nbh u hd E T hs (Of fun h=>D (.inl h)) (fun h=>D (.inr (.inl h))) (Nat.le_of_not_lt fun h=>D (.inr (.inr h)))
    (fun x hx=>B x.2 (by simp only [Op.operands];simp;exact ⟨x.1,by simpa using hx⟩)) hx _ rfl
  ·cases g
 case load t a=>
  obtain ⟨ag,J,g⟩:=NV g
  have ha:=B a (by simp [Op.operands])
  cases ag with
  | true=>
    simp only [if_true,Nb] at g
    obtain ⟨n,hn,rfl⟩:=g
    simp only [NJ] at hx
    split at hx
    case h_2=>cases hx
    rename_i p hp
    simp only [Nb,Prod.mk.injEq] at hx
    obtain ⟨c,hc,rfl,rfl⟩:=hx
    rw [hp] at ha
    obtain ⟨L,hL,F,h2⟩:=ha.ptr_left
    obtain ⟨v',S,h4⟩:=Nby (P:=P) u J hn hL hc
    refine OC.plain u (v':=v') ?_ h4
    simp only [execOp]
    refine OT P w _ ?_
    simp [Instr.loadAt,Instr.sureAddr,h2,S]
  | false=>
    simp only [Nz,if_false,Option.some.injEq] at g
    subst g
    simp only [NJ] at hx
    split at hx
    case h_2=>cases hx
    rename_i p hp
    simp only [Nb,Prod.mk.injEq] at hx
    obtain ⟨c,hc,rfl,rfl⟩:=hx
    rw [hp] at ha
    obtain ⟨L,hL,F,h2⟩:=ha.ptr_left
    obtain ⟨v',S,h4⟩:=Nbz (P:=P) u J hL hc
    refine OC.plain u (v':=v') ?_ h4
    simp only [execOp]
    refine OT P w _ ?_
    simp [Instr.loadAt,Instr.sureAddr,h2,S]
 case store t a x=>
  simp only [Nb] at g
  obtain ⟨n,hn,rfl⟩:=g
  have ha:=B a (by simp [Op.operands])
  have A:=B x (by simp [Op.operands])
  simp only [NJ] at hx
  split at hx
  case h_2=>cases hx
  rename_i p hp
  split at hx
  case isFalse=>cases hx
  rename_i D
  simp only [Nb,Prod.mk.injEq] at hx
  obtain ⟨H2,a2,rfl,rfl⟩:=hx
  rw [hp] at ha
  obtain ⟨L,hL,F,h2⟩:=ha.ptr_left
  obtain ⟨w',Q,R,q3,q4⟩:=u.store (P:=P) hL a2 A.cells (A.cells_one D.2)
  refine OC.wrote u (nx:=.skip) ?_ rfl (.atom rfl) R q3 q4
  simp only [execOp]
  refine Mm P w _ ?_
  have a4:(ρ' x).cells.size=n:=by have:=A.cells.1;simp at this;rw [<-this];exact D.1
  simp [Instr.storeAt,Instr.sureAddr,h2,storeVar,RI hn,a4,Q]
 case nilCheck x=>
  cases g
  have A:=B x (by simp [Op.operands])
  simp only [NJ] at hx
  split at hx
  ·rename_i p hp
   cases hx
   rw [hp] at A
   obtain ⟨L,hL,F,h2⟩:=A.ptr_left
   exact OC.plain u (v':=ρ' x) (by simp [execOp,h2]) A
  ·rename_i f a b hp
   cases hx
   rw [hp] at A
   obtain ⟨c,d,h2,_,_⟩:=A.func_left
   exact OC.plain u (v':=ρ' x) (by simp [execOp,h2]) A
  ·cases hx
 case binOp op t x y yt=>
  have A:=B x (by simp [Op.operands])
  have X:=B y (by simp [Op.operands])
  have bin:∀{r},NJ lim dest (.bin op x y) ρ H=some (v,r)->OC Pg W lim σ dest H w ((execOp ρ' ⟨dst,.binOp op t x y yt,type,pos,after,guard⟩).run P w) v r:=by
   intro r hx
   simp only [NJ,Nb,Prod.mk.injEq] at hx
   obtain ⟨c,hc,rfl,rfl⟩:=hx
   have O:ρ' x=ρ x/\ρ' y=ρ y/\VRel σ c c:=by
    have C:=hc
    unfold NK at C
    split at C
    ·rename_i k a k' b e1 e2
     rw [e1] at A;rw [e2] at X
     refine ⟨by rw [A.int_left,e1],by rw [X.int_left,e2], ?_⟩
     have:atom c=true:=by
      split at C
      ·split at C<;>cases C<;>rfl
      ·split at C<;>cases C<;>rfl
      ·split at C
       ·cases op<;>simp at C<;>first | (subst C;rfl) | (obtain ⟨_,rfl⟩:=C;rfl)
       ·cases C
     exact .atom this
    ·rename_i a b e1 e2
     rw [e1] at A;rw [e2] at X
     refine ⟨by rw [A.string_left,e1],by rw [X.string_left,e2], ?_⟩
     have:atom c=true:=by
      cases op<;>simp at C<;>first | (subst C;rfl) | (obtain ⟨_,rfl⟩:=C;rfl)
     exact .atom this
    ·cases C
   refine OC.plain u (v':=c) ?_ O.2.2
   simp only [execOp]
   refine OT P w _ ?_
   rw [O.1,O.2.1]
   exact Nqr op t x y hc
  have ad:∀{neg:Bool} {k:EqKind} {r},op=(if neg then .neq else .eql)->TT P t=some k->NJ lim dest (.eqv neg k x y) ρ H=some (v,r)->
    OC Pg W lim σ dest H w ((execOp ρ' ⟨dst,.binOp op t x y yt,type,pos,after,guard⟩).run P w) v r:=by
   intro neg k r aq hk hx
   simp only [NJ] at hx
   split at hx
   case h_2=>cases hx
   rename_i b N
   cases hx
   refine OC.plain u (v':=.bool (if neg then !b else b)) ?_ (.atom rfl)
   simp only [execOp,aq]
   exact OT P w _ (Nvp w neg hk x y A X N)
  split at g
  ·cases g;exact bin hx
  ·cases g;exact bin hx
  ·split at g
   ·simp only [Nb] at g
    obtain ⟨k,hk,rfl⟩:=g
    exact ad (neg:=false) rfl hk hx
   ·simp only [Nb] at g
    obtain ⟨k,hk,rfl⟩:=g
    exact ad (neg:=true) rfl hk hx
   ·cases g
 case unOp op t x=>
  cases g
  have A:=B x (by simp [Op.operands])
  simp only [NJ,Nb,Prod.mk.injEq] at hx
  obtain ⟨c,hc,rfl,rfl⟩:=hx
  have O:ρ' x=ρ x/\VRel σ c c:=by
   have C:=hc
   unfold QY at C
   split at C
   ·rename_i b e1;rw [e1] at A;cases C;exact ⟨by rw [A.bool_left,e1],.atom rfl⟩
   ·rename_i k n e1;rw [e1] at A;cases C;exact ⟨by rw [A.int_left,e1],.atom rfl⟩
   ·rename_i k n e1;rw [e1] at A;cases C;exact ⟨by rw [A.int_left,e1],.atom rfl⟩
   ·cases C
  refine OC.plain u (v':=c) ?_ O.2
  simp only [execOp]
  refine OT P w _ ?_
  rw [O.1]
  exact Nvl op hc
 case convert s d x=>
  have A:=B x (by simp [Op.operands])
  split at g
  ·rename_i k' k hs M
   cases g
   simp only [NJ] at hx
   split at hx
   case h_2=>cases hx
   rename_i q n hq
   cases hx
   rw [hq] at A
   refine OC.plain u (v':=.int k (k.wrap n)) ?_ (.atom rfl)
   simp only [execOp]
   refine OT P w _ ?_
   rw [A.int_left]
   simp [convert,run_underlying hs,run_underlying M,Conv.intToInt]
  ·rename_i hs M
   cases g
   simp only [NJ] at hx
   split at hx
   case h_2=>cases hx
   rename_i q hq
   cases hx
   rw [hq] at A
   refine OC.plain u (v':=.string q) ?_ (.atom rfl)
   simp only [execOp]
   refine OT P w _ ?_
   rw [A.string_left]
   simp [convert,run_underlying hs,run_underlying M]
  rotate_left
  ·rename_i e e' hs M
   split at g
   case h_2=>cases g
   rename_i he
   split at g
   case isFalse=>cases g
   rename_i a1
   cases g
   subst a1
   have ax:e'=e:=by rw [hs] at M;cases M;rfl
   subst ax
   exact Nfz (o:=⟨dst,.convert s s x,type,pos,after,guard⟩) u hs he A hx
  rotate_right
  ·rename_i e hs M
   split at g
   ·rename_i he
    cases g
    obtain ⟨v',Q,R,rfl⟩:=Nvh (P:=P) u hs he M A hx
    refine OC.plain u (v':=v') ?_ R
    simp only [execOp]
    exact OT P w _ Q
   ·cases g
  ·cases g
 case makeFunc fn first captured=>
  cases fn<;>simp only at g<;>try (cases g;done)
  rename_i f
  cases g
  simp only [NJ] at hx
  cases hx
  refine OC.plain u (v':=.func (.func f) (first.map ρ') (captured.map ρ')) rfl ?_
  have key:∀(l:Array Operand),(∀x∈l,VRel σ (ρ x) (ρ' x))->∀i (h:i<((l.toList.map ρ).toArray).size) (h':i<(l.map ρ').size),VRel σ ((l.toList.map ρ).toArray)[i] (l.map ρ')[i]:=fun l hl i h h'=>by
   simp only [List.getElem_toArray,Pz,Array.getElem_map,Array.getElem_toList]
   exact hl _ (Array.getElem_mem _)
  exact .func (by simp) (by simp) (key first fun x hx=>B x (by simp [Op.operands,hx])) (key captured fun x hx=>B x (by simp [Op.operands,hx]))
 case makeMap t r=>
  split at g
  ·rename_i kt e E
   cases g
   simp only [NJ] at hx
   split at hx
   case h_2=>cases hx
   rename_i hr
   cases hp:place dest (.map []) H with
   | mk k K=>
   rw [hp] at hx
   cases hx
   obtain ⟨i1,i2⟩:=u.allocMap hp hd
   obtain ⟨g1,g2,g3,g4,g5,g6,g7⟩:=Tg hp fun d e=>(hd d e).1
   refine ⟨.value (.map (some w.heap.size)),_,_,_, ?_,rfl,VRel.map PH.put_same,i1,Stp.alloc u.fresh _,PH.le_put i2,fun j Z=>?_,g3,fun aw=>?_⟩
   ·simp only [execOp]
    refine OT P w _ ?_
    cases r with
    | none=>simp [Instr.makeMap]
    | some x=>
      have A:=B x (by simp [Op.operands])
      cases hxx:ρ x<;>simp [hxx] at hr
      rw [hxx] at A
      simp [Instr.makeMap,A.int_left,run_underlying E,asInt,asIntOf]
   ·by_cases e:j=k
    ·subst e
     cases dest with
     | none=>exact .inr ⟨rfl,by rw [g5 rfl];exact Nd _⟩
     | some d=>exact .inl (by rw [(g6 d rfl).1])
    ·simp [PH.put,e] at Z
   ·cases dest with
    | none=>exact absurd rfl aw
    | some d=>exact (g6 d rfl).2
  ·cases g
 case makeInterface t x=>cases g;simp [NJ] at hx
 case panic x=>cases g;simp [NJ] at hx
 case makeSlice t l c=>
  split at g
  ·rename_i e E
   obtain ⟨s,hs,g⟩:=NV g
   obtain ⟨bb,N,g⟩:=NV g
   obtain ⟨z,T,g⟩:=NV g
   split at g
   ·cases g
   rename_i D
   cases g
   have a7:z.length=s:=Of fun h=>D (.inl h)
   have ba:s≠0:=fun h=>D (.inr h)
   obtain ⟨i,G,hi,a8,rfl,au⟩:=TV T
   obtain ⟨i2,aj,az⟩:=YJ hs
   rw [hi] at aj;cases aj
   obtain ⟨i3,ak,ay⟩:=ZP N
   rw [hi] at ak;cases ak
   subst az ay
   have am:=B l (by simp [Op.operands])
   have ai:=B c (by simp [Op.operands])
   simp only [NJ] at hx
   split at hx
   case h_2=>cases hx
   rename_i kl ln kc cn hl hc
   split at hx
   case isFalse=>cases hx
   rename_i av
   obtain ⟨b1,b2,b3,b4⟩:=av
   cases hp:place dest (.cells false ((List.range (cn.toNat*i.size)).map fun j=>G.cells.toList.getD (j % G.cells.toList.length) undef)) H with
   | mk k K=>
   rw [hp] at hx
   cases hx
   rw [hl] at am;rw [hc] at ai
   have Y:∀j,VRel σ (G.cells.toList.getD (j % G.cells.toList.length) undef) (G.cells[j % G.cells.size]!)/\(G.cells[j % G.cells.size]!).oneCell'=true:=fun j=>by
    have Z:j % G.cells.size<G.cells.size:=Pr _ (by simp at a7;omega)
    have e1:G.cells.toList.getD (j % G.cells.toList.length) undef=G.cells[j % G.cells.size]:=by
     rw [Na,Array.length_toList,Array.getElem?_toList,Ny Z];rfl
    have e2:G.cells[j % G.cells.size]! = G.cells[j % G.cells.size]:=by simp [Z]
    rw [e1,e2]
    have:=au _ (Array.mem_toList_iff.2 (Array.getElem_mem Z))
    exact ⟨.atom this.1,this.2⟩
   refine OC.made u hd hp (cs:=madeCells G.cells (cn.toNat*i.size)) (el:=e) (fun j y Z=>?_) (by simp [size_madeCells]) u (Stp.refl _ _) (v':=.slice (some ⟨w.heap.size,0,none⟩) ln.toNat cn.toNat) ?_ ?_
   ·rw [O0] at Z
    simp only [Nb] at Z
    obtain ⟨j',ab,rfl⟩:=Z
    have al:j<cn.toNat*i.size:=by simpa using (List.getElem?_eq_some_iff.1 ab).1
    rw [List.getElem?_range al] at ab
    cases ab
    exact ⟨G.cells[j % G.cells.size]!,by simp [madeCells,al],(Y j).1,(Y j).2⟩
   ·simp only [execOp]
    refine OT P w _ ?_
    rw [am.int_left,ai.int_left]
    exact run_make w t e i G E hi a8 kl kc ln cn b1 b2 (by rw [Int.mul_comm];omega) (by omega)
   ·have ae:cn.toNat<2 ^ 62:=by omega
    simpa using VRel.slice (σ:=σ.put k ⟨w.heap.size,0,(madeCells G.cells (cn.toNat*i.size)).size⟩) (i:=k) (k:=0) (n:=ln.toNat) PH.put_same ae
  ·cases g
 case slice t x lo hi mx=>
  have A:=B x (by simp [Op.operands])
  have aa:∀y∈lo.toList++hi.toList++mx.toList,VRel σ (ρ y) (ρ' y):=fun y hy=>B y (by
   simp only [Op.operands];simp at hy⊢;rcases hy with h | h | h<;>simp [h])
  split at g
  ·rename_i e E
   obtain ⟨s,hs,g⟩:=NV g
   split at g
   ·cases g
   cases g
   simp only [NJ,Nb,Prod.mk.injEq] at hx
   obtain ⟨c,hc,rfl,rfl⟩:=hx
   obtain ⟨v',Q,R⟩:=Nh0 (P:=P) (w:=w) E hs A aa hc
   refine OC.plain u (v':=v') ?_ R
   simp only [execOp]
   exact OT P w _ Q
  ·rename_i n e E
   obtain ⟨s,hs,g⟩:=NV g
   split at g
   ·cases g
   cases g
   simp only [NJ] at hx
   split at hx
   case h_2=>cases hx
   rename_i a ha
   split at hx
   case h_2=>cases hx
   rename_i l h' m N
   split at hx
   case isFalse=>cases hx
   rename_i ae
   cases hx
   rw [ha] at A
   obtain ⟨L,hL,F,h2⟩:=A.ptr_left
   obtain ⟨m',r1,r2,r3,r4,r5,r6,r7⟩:=SC (P:=P) (w:=w) N aa (Nd _) false
   have hm:m'=m:=by
    by_cases e:mx=none
    ·rw [(r2 e).1,(r2 e).2]
    ·exact r3 e
   subst hm
   refine OC.plain u (v':=.slice (some (if m'=l then ⟨L.blk,L.base+a.off,none⟩ else (⟨L.blk,L.base+a.off,none⟩:Addr).add (l*s))) (h'-l) (m'-l)) ?_ ?_
   ·simp only [execOp]
    refine OT P w _ ?_
    rw [h2]
    simp [Instr.sliceAt,run_underlying E,Instr.sureAddr,r1,RI hs]
   ·split
    ·exact VRel.slice' F hL (by omega)
    ·rw [Tj a _ F,Tj _ _ rfl]
     have:=VRel.slice (σ:=σ) (i:=a.block) (k:=a.off+l*s) (n:=h'-l) (c:=m'-l) hL (by omega)
     rw [<-Oo] at this
     exact this
  ·rename_i E
   split at g
   ·cases g
   rename_i a9
   cases g
   have an:mx=none:=by cases mx<;>simp_all
   subst an
   simp only [NJ] at hx
   split at hx
   case h_2=>cases hx
   rename_i q hq
   split at hx
   case h_2=>cases hx
   rename_i l h' m N
   cases hx
   rw [hq] at A
   obtain ⟨m',r1,r2,r3,r4,r5,r6,r7⟩:=SC (P:=P) (w:=w) N aa (Nd _) false
   refine OC.plain u (v':=.string (q.extract l h')) ?_ (.atom rfl)
   simp only [execOp]
   refine OT P w _ ?_
   rw [A.string_left]
   simp only [Oh] at r1
   simp [Instr.sliceAt,Instr.slice,run_underlying E,r1]
  ·cases g
 case fieldAddr s x f=>
  have A:=B x (by simp [Op.operands])
  split at g
  ·rename_i fs E
   obtain ⟨fd,hf,g⟩:=NV g
   obtain ⟨n,hn,g⟩:=NV g
   split at g
   ·cases g
   rename_i h0
   cases g
   simp only [NJ] at hx
   split at hx
   case h_2=>cases hx
   rename_i p hp
   cases hx
   rw [hp] at A
   obtain ⟨L,hL,F,h2⟩:=A.ptr_left
   refine OC.plain u ?_ (VRel.ptr_add hL F fd.offset)
   simp only [execOp]
   refine OT P w _ ?_
   rw [h2]
   exact Nkf E hf hn h0 _
  ·cases g
 case field s x f=>
  have A:=B x (by simp [Op.operands])
  split at g
  ·rename_i fs E
   obtain ⟨fd,hf,g⟩:=NV g
   obtain ⟨n,hn,g⟩:=NV g
   obtain ⟨ag,J,g⟩:=NV g
   cases ag with
   | true=>
     simp only [if_true] at g
     cases g
     simp only [NJ] at hx
     split at hx
     case h_2=>cases hx
     rename_i cs V
     cases hx
     rw [V] at A
     obtain ⟨ys,h2,S,h4⟩:=A.agg_left
     refine OC.plain u (v':=.agg (ys.extract fd.offset (fd.offset+n))) ?_ (VRel.agg_iff.2 ⟨?_, ?_⟩)
     ·simp only [execOp]
      refine OT P w _ ?_
      rw [h2]
      simp [Instr.field,run_underlying E,hf,asAgg,Nas J hn]
     ·rw [extract_toList];simpa using (S.drop fd.offset).take n
     ·rw [extract_toList];exact fun y hy=>h4 y (List.mem_of_mem_drop (List.mem_of_mem_take hy))
   | false=>
     simp only [Nz,if_false] at g
     cases g
     simp only [NJ] at hx
     split at hx
     case h_2=>cases hx
     rename_i cs V
     simp only [Nb,Prod.mk.injEq] at hx
     obtain ⟨c,hc,rfl,rfl⟩:=hx
     rw [V] at A
     obtain ⟨ys,h2,S,h4⟩:=A.agg_left
     obtain ⟨y,h5,h6⟩:=S.get hc
     refine OC.plain u (v':=y) ?_ h6
     simp only [execOp]
     refine OT P w _ ?_
     rw [h2]
     simp [Instr.field,run_underlying E,hf,asAgg,Nau J (by simpa using h5)]
  ·cases g
 case indexAddr t x ix=>
  have A:=B x (by simp [Op.operands])
  have I:=B ix (by simp [Op.operands])
  split at g
  ·rename_i e E
   obtain ⟨s,hs,g⟩:=NV g
   cases g
   simp only [NJ] at hx
   split at hx
   case h_2=>cases hx
   rename_i p len cap k n hp hi
   split at hx
   case isFalse=>cases hx
   rename_i hn
   cases hx
   rw [hp] at A;rw [hi] at I
   obtain ⟨F,L,hL,hc⟩:=A.slice_left
   have a6:∃c',ρ' x=.slice (some ⟨L.blk,L.base+p.off,none⟩) len c':=by
    rcases hc with ⟨_,h⟩ | ⟨_,_,_,_,_,h⟩ | ⟨_,_,h0,h⟩
    ·exact ⟨_,h⟩
    ·exact ⟨_,h⟩
    ·rw [h0] at hn;simp at hn;omega
   obtain ⟨c',h2⟩:=a6
   refine OC.plain u ?_ (VRel.ptr_add hL F (n.toNat*s))
   simp only [execOp]
   refine OT P w _ ?_
   rw [h2,I.int_left]
   exact ZA E hs _ len c' k n hn
  ·rename_i len e E
   obtain ⟨s,hs,g⟩:=NV g
   cases g
   simp only [NJ] at hx
   split at hx
   case h_2=>cases hx
   rename_i p k n hp hi
   split at hx
   case isFalse=>cases hx
   rename_i hn
   cases hx
   rw [hp] at A;rw [hi] at I
   obtain ⟨L,hL,F,h2⟩:=A.ptr_left
   refine OC.plain u ?_ (VRel.ptr_add hL F (n.toNat*s))
   simp only [execOp]
   refine OT P w _ ?_
   rw [h2,I.int_left]
   exact ZB E hs _ k n hn
  ·cases g
 case index t x ix=>
  have A:=B x (by simp [Op.operands])
  have I:=B ix (by simp [Op.operands])
  split at g
  ·rename_i len e E
   obtain ⟨s,hs,g⟩:=NV g
   obtain ⟨ag,J,g⟩:=NV g
   cases g
   simp only [NJ] at hx
   split at hx
   case h_2=>cases hx
   rename_i cs k n V hi
   split at hx
   case isFalse=>cases hx
   rename_i hn
   rw [V] at A;rw [hi] at I
   obtain ⟨ys,h2,S,h4⟩:=A.agg_left
   cases ag with
   | true=>
     simp only [if_true] at hx
     cases hx
     refine OC.plain u (v':=.agg (ys.extract (n.toNat*s) (n.toNat*s+s))) ?_ (VRel.agg_iff.2 ⟨?_, ?_⟩)
     ·simp only [execOp]
      refine OT P w _ ?_
      rw [h2,I.int_left,WM E hs ys k n hn]
      exact Nas J hs
     ·rw [extract_toList];simpa using (S.drop (n.toNat*s)).take s
     ·rw [extract_toList];exact fun y hy=>h4 y (List.mem_of_mem_drop (List.mem_of_mem_take hy))
   | false=>
     simp only [Nz,if_false,Nb,Prod.mk.injEq] at hx
     obtain ⟨c,hc,rfl,rfl⟩:=hx
     obtain ⟨y,h5,h6⟩:=S.get hc
     refine OC.plain u (v':=y) ?_ h6
     simp only [execOp]
     refine OT P w _ ?_
     rw [h2,I.int_left,WM E hs ys k n hn]
     exact Nau J (by simpa using h5)
  ·rename_i E
   cases g
   simp only [NJ] at hx
   split at hx
   case h_2=>cases hx
   rename_i q k n hq hi
   split at hx
   case isFalse=>cases hx
   rename_i hn
   simp only [Nb,Prod.mk.injEq] at hx
   obtain ⟨b,N,rfl,rfl⟩:=hx
   rw [hq] at A;rw [hi] at I
   refine OC.plain u (v':=.int .u8 b.toNat) ?_ (.atom rfl)
   simp only [execOp]
   refine OT P w _ ?_
   rw [A.string_left,I.int_left]
   exact Mo E q k n hn N
  ·cases g
 case lookup t m k ok=>
  split at g
  ·rename_i kt e E
   obtain ⟨z,T,g⟩:=NV g
   obtain ⟨kk,hk,g⟩:=NV g
   cases g
   exact Nit u E hk T (B m (by simp [Op.operands])) (B k (by simp [Op.operands])) hx _ rfl
  ·cases g
 case mapUpdate t m k x=>
  split at g
  ·rename_i kt e E
   simp only [Nb] at g
   obtain ⟨kk,hk,rfl⟩:=g
   obtain ⟨w',Q,R,q3,q4,rfl⟩:=Zo (P:=P) u E hk (B m (by simp [Op.operands])) (B k (by simp [Op.operands])) (B x (by simp [Op.operands])) hx
   refine OC.wrote u (nx:=.skip) ?_ rfl (.atom rfl) R q3 q4
   simp only [execOp]
   exact Mm P w _ Q
  ·cases g
 case insert t m k x=>
  split at g
  ·rename_i kt e E
   simp only [Nb] at g
   obtain ⟨kk,hk,rfl⟩:=g
   obtain ⟨w',Q,R,q3,q4,rfl⟩:=Zo (P:=P) u E hk (B m (by simp [Op.operands])) (B k (by simp [Op.operands])) (B x (by simp [Op.operands])) hx
   refine OC.wrote u (nx:=.skip) ?_ rfl (.atom rfl) R q3 q4
   simp only [execOp]
   exact Mm P w _ Q
  ·cases g
 case mapEntry t m k=>
  split at g
  ·rename_i kt e E
   obtain ⟨z,T,g⟩:=NV g
   obtain ⟨kk,hk,g⟩:=NV g
   cases g
   obtain ⟨v',w',Q,R,q3,q4,q5⟩:=Nis (P:=P) u E hk T (B m (by simp [Op.operands])) (B k (by simp [Op.operands])) hx
   refine OC.wrote u (nx:=.value v') ?_ rfl R q3 q4 q5
   simp only [execOp]
   exact OT P w _ Q
  ·cases g
 case entryStore t m s x=>
  cases g
  obtain ⟨w',Q,R,q3,q4,rfl⟩:=Nev (P:=P) u t (B m (by simp [Op.operands])) (B s (by simp [Op.operands])) (B x (by simp [Op.operands])) hx
  refine OC.wrote u (nx:=.skip) ?_ rfl (.atom rfl) R q3 q4
  simp only [execOp]
  exact Mm P w _ Q
 case extract x ix=>
  have A:=B x (by simp [Op.operands])
  cases g
  simp only [NJ] at hx
  split at hx
  case h_2=>cases hx
  rename_i vs a5
  simp only [Nb,Prod.mk.injEq] at hx
  obtain ⟨c,hc,rfl,rfl⟩:=hx
  rw [a5] at A
  obtain ⟨ys,h2,S⟩:=A.tuple_left
  obtain ⟨y,h5,h6⟩:=S.get hc
  refine OC.plain u (v':=y) ?_ h6
  simp only [execOp]
  refine OT P w _ ?_
  rw [h2]
  have ar:ys[ix]? = some y:=by simpa using h5
  simp [Instr.extract,ar]
end
end Go.AM


namespace Go.AM
theorem OQ (base:Nat):∀(l:List Nat) (H:NA),(NU base l H).length=H.length
 | [],_=>rfl
 | i::l,H=>by simp only [NU,Oi];exact (OQ base l _).trans (by simp)
theorem OZ (base:Nat) (H0:NA):∀(l:List Nat) (H:NA),(NS base l H0 H).length=H.length
 | [],_=>rfl
 | i::l,H=>by simp only [NS,Oi];exact (OZ base H0 l _).trans (by simp)
theorem PX (base:Nat) {j:Nat}:∀(l:List Nat) (H:NA),(∀i∈l,base+i≠j)->(NU base l H)[j]? = H[j]?
 | [],_,_=>rfl
 | i::l,H,h=>by
   simp only [NU,Oi]
   have:=PX base (j:=j) l (H.set (base+i) .dead) fun k hk=>h k (Nj _ hk)
   simp only [NU] at this
   rw [this,N1,Ng (h i Nm)]
theorem TF (base:Nat) {j:Nat}:∀(l:List Nat) (H:NA),(∃i∈l,base+i=j)->j<H.length->(NU base l H)[j]? = some .dead
 | [],_,h,_=>by simp at h
 | i::l,H,h,hj=>by
   simp only [NU,Oi]
   by_cases hl:∃k∈l,base+k=j
   ·exact TF base l _ hl (by simpa using hj)
   ·have h0:base+i=j:=by
     obtain ⟨k,hk,e⟩:=h
     rcases Nn.1 hk with rfl | hk
     ·exact e
     ·exact absurd ⟨k,hk,e⟩ hl
    have:=PX base (j:=j) l (H.set (base+i) .dead) fun k hk e=>hl ⟨k,hk,e⟩
    simp only [NU] at this
    rw [this,N1,Nh h0,Nh (by omega)]
theorem QN (base:Nat) (H0:NA) {j:Nat}:∀(l:List Nat) (H:NA),(∀i∈l,base+i≠j)->(NS base l H0 H)[j]? = H[j]?
 | [],_,_=>rfl
 | i::l,H,h=>by
   simp only [NS,Oi]
   have:=QN base H0 (j:=j) l (H.set (base+i) (NC H0 (base+i))) fun k hk=>h k (Nj _ hk)
   simp only [NS] at this
   rw [this,N1,Ng (h i Nm)]
theorem Rz (base:Nat) (H0:NA) {j:Nat}:∀(l:List Nat) (H:NA),(∃i∈l,base+i=j)->j<H.length->(NS base l H0 H)[j]? = some (NC H0 j)
 | [],_,h,_=>by simp at h
 | i::l,H,h,hj=>by
   simp only [NS,Oi]
   by_cases hl:∃k∈l,base+k=j
   ·exact Rz base H0 l _ hl (by simpa using hj)
   ·have h0:base+i=j:=by
     obtain ⟨k,hk,e⟩:=h
     rcases Nn.1 hk with rfl | hk
     ·exact e
     ·exact absurd ⟨k,hk,e⟩ hl
    have:=QN base H0 (j:=j) l (H.set (base+i) (NC H0 (base+i))) fun k hk e=>hl ⟨k,hk,e⟩
    simp only [NS] at this
    rw [this,N1,Nh h0,Nh (by omega),h0]
theorem ME {H:NA} {j:Nat} (h:j<H.length):H[j]? = some (NC H j):=by
 unfold NC
 rw [Na,Nf h]
 rfl
theorem RD (base:Nat) (l:List Nat) (H:NA):NS base l H (NU base l H)=H:=by
 apply List.ext_getElem?
 intro j
 by_cases b:j<H.length
 ·by_cases hl:∃i∈l,base+i=j
  ·rw [Rz base H l _ hl (by rw [OQ];exact b),ME b]
  ·have a:∀i∈l,base+i≠j:=fun i hi e=>hl ⟨i,hi,e⟩
   rw [QN base H l _ a,PX base l _ a]
 ·rw [Nu (by rw [OZ,OQ];omega),Nu (by omega)]
theorem Nx4 (base:Nat) (l:List Nat) (H:NA) {r:Nat} (hr:r∈l) (b:Blk):NU base l (H.set (base+r) b)=NU base l H:=by
 apply List.ext_getElem?
 intro j
 by_cases c:j<H.length
 ·by_cases hl:∃i∈l,base+i=j
  ·rw [TF base l _ hl (by simpa using c),TF base l _ hl c]
  ·have a:∀i∈l,base+i≠j:=fun i hi e=>hl ⟨i,hi,e⟩
   rw [PX base l _ a,PX base l _ a,N1,Ng (a r hr)]
 ·rw [Nu (by rw [OQ];simp;omega),Nu (by rw [OQ];omega)]
theorem Nju (base:Nat) (l:List Nat) (H X:NA) {r:Nat} (hr:r∈l) (b:Blk) (d:base+r<H.length) (f:H.length<=X.length):NS base l (H.set (base+r) b) X=(NS base l H X).set (base+r) b:=by
 apply List.ext_getElem?
 intro j
 by_cases c:j<X.length
 ·by_cases hl:∃i∈l,base+i=j
  ·rw [Rz base _ l X hl c,N1]
   by_cases he:base+r=j
   ·subst he
    rw [Nh rfl,Nh (by rw [OZ];exact c)]
    unfold NC
    rw [Na,Ra d]
    rfl
   ·rw [Ng he,Rz base H l X hl c]
    unfold NC
    rw [Na,Qs he,<-Na]
  ·have a:∀i∈l,base+i≠j:=fun i hi e=>hl ⟨i,hi,e⟩
   rw [QN base _ l X a,Qs (a r hr),QN base H l X a]
 ·rw [Nu (by rw [OZ];omega),Nu (by rw [Qd,OZ];omega)]
theorem UA {d:Nat} {b:Blk} {H:NA}:place (some d) b H=(d,H.set d b):=rfl
theorem Ncv {o:AOp} (hk:kind o=.p) (lim:Nat) (dest:Option Nat) (ρ:Operand->Value) (H:NA) :
  NJ lim dest o ρ H=((NJ lim dest o ρ []).map (·.1)).map (·,H):=by
 cases o<;>simp [kind] at hk<;>simp only [NJ]
 case mov=>rfl
 case lenK=>rfl
 case makeFunc=>rfl
 case pick c a b=>cases ρ c<;>first | rfl | (rename_i b;cases b<;>rfl)
 case bin op x y=>cases NK op (ρ x) (ρ y)<;>rfl
 case eqv neg k x y=>cases aEq k (ρ x) (ρ y)<;>rfl
 case un op x=>cases QY op (ρ x)<;>rfl
 case conv k x=>cases ρ x<;>rfl
 case build z ps=>cases R3 ρ ps z<;>rfl
 case nilCheck x=>cases ρ x<;>first | rfl | (rename_i a;cases a<;>rfl) | (rename_i f a b;cases f<;>rfl)
 case fieldAddr o x=>cases ρ x<;>first | rfl | (rename_i a;cases a<;>rfl)
 case field1 o x=>cases ρ x<;>first | rfl | (rename_i cs;simp only [];cases cs.toList[o]?<;>rfl)
 case fieldN o n x=>cases ρ x<;>rfl
 case idxAddrA l e x i=>split<;>first | rfl | (split<;>rfl)
 case idxAddrS e x i=>split<;>first | rfl | (split<;>rfl)
 case idxA l e d x i=>
  split
  ·split
   ·split
    ·rfl
    ·simp [Function.comp_def]
   ·rfl
  ·rfl
 case idxStr x i=>
  split
  ·split
   ·simp [Function.comp_def]
   ·rfl
  ·rfl
 case sliceS e x lo hi mx=>cases TJ e ρ (ρ x) lo hi mx<;>rfl
 case sliceA n e x lo hi mx=>
  split
  ·split
   ·split<;>rfl
   ·rfl
  ·rfl
 case sliceStr x lo hi=>
  split
  ·split<;>rfl
  ·rfl
 case lenStr x=>cases ρ x<;>rfl
 case lenSlice x=>cases ρ x<;>rfl
 case capSlice x=>
  cases ρ x<;>try rfl
  rename_i a n c
  by_cases h:c<2 ^ 62<;>simp only [h,if_true,if_false]<;>rfl
 case die=>rfl
 case minmax mx xs=>
  cases xs with
  | nil=>rfl
  | cons x r=>simp only [];cases Rq mx (ρ x) (r.map ρ)<;>rfl
 case extract i x=>cases ρ x<;>first | rfl | (rename_i vs;simp only [];cases vs.toList[i]?<;>rfl)
 case strId x=>cases ρ x<;>rfl
 case call mp f args=>split at hk<;>cases hk
theorem Nyu {o:AOp} (hk:kind o=.p) {lim:Nat} {dest:Option Nat} {ρ:Operand->Value} {H H':NA} {v:Value} (h:NJ lim dest o ρ H=some (v,H')) :
  H'=H/\∀a,NJ lim dest o ρ a=some (v,a):=by
 rw [Ncv hk] at h
 cases hg:(NJ lim dest o ρ []).map (·.1) with
 | none=>rw [hg] at h;cases h
 | some c=>
   rw [hg] at h
   cases h
   exact ⟨rfl,fun a=>by rw [Ncv hk,hg];rfl⟩
theorem Ww {o:AOp} (hk:kind o=.r) (hc:∀mp f args,o≠.call mp f args) {lim:Nat} {dest:Option Nat} {ρ:Operand->Value} {H H':NA} {v:Value} (h:NJ lim dest o ρ H=some (v,H')):H'=H:=by
 have fin:∀{x:Option Value},(x.map fun c=>(c,H))=some (v,H')->H'=H:=by
  intro x h
  cases x with
  | none=>cases h
  | some c=>cases h;rfl
 cases o<;>simp [kind] at hk<;>simp only [NJ] at h
 case load1=>split at h;exact fin h;cases h
 case loadN=>
  split at h
  ·simp only [Nb,Prod.mk.injEq] at h;obtain ⟨_,_,_,h⟩:=h;exact h.symm
  ·cases h
 case loadR=>
  split at h
  ·split at h
   ·simp only [Nb,Prod.mk.injEq] at h;obtain ⟨_,_,_,h⟩:=h;exact h.symm
   ·cases h
  ·cases h
 case loadO=>
  split at h
  ·split at h
   ·simp only [Nb,Prod.mk.injEq] at h;obtain ⟨_,_,_,h⟩:=h;exact h.symm
   ·cases h
  ·cases h
 case lenMap=>simp only [Nb,Prod.mk.injEq] at h;obtain ⟨_,_,_,h⟩:=h;exact h.symm
 case lookup=>
  split at h
  ·split at h
   ·split at h<;>cases h<;>rfl
   ·cases h
  ·cases h
 case rowMark=>
  split at h
  ·split at h
   ·split at h
    ·cases h;rfl
    ·cases h
   ·cases h
  ·cases h
 case b2s=>
  split at h
  ·split at h<;>cases h;rfl
  ·split at h
   ·split at h<;>cases h;rfl
   ·cases h
  ·cases h
 case call=>cases h
theorem Nyw {o:AOp} (hk:kind o=.a) {lim d:Nat} {ρ:Operand->Value} {H H':NA} {v:Value} (h:NJ lim (some d) o ρ H=some (v,H')) :
  ∃b,H'=H.set d b/\∀c,NJ lim (some d) o ρ c=some (v,c.set d b):=by
 cases o<;>simp [kind] at hk<;>simp only [NJ,UA] at h⊢
 case alloc=>cases h;exact ⟨_,rfl,fun _=>rfl⟩
 case box x=>
  split at h
  case isFalse=>cases h
  rename_i ht
  cases h
  exact ⟨_,rfl,fun _=>by rw [Nh ht]⟩
 case buildSlice=>
  split at h
  case h_2=>cases h
  cases h
  exact ⟨_,rfl,fun _=>rfl⟩
 case makeSlice=>
  split at h
  case h_2=>cases h
  split at h
  case isFalse=>cases h
  rename_i hc
  cases h
  exact ⟨_,rfl,fun _=>by rw [Nh hc]⟩
 case growNil=>
  split at h
  case h_2=>cases h
  split at h
  case isFalse=>cases h
  rename_i hc
  cases h
  exact ⟨_,rfl,fun _=>by rw [Nh hc]⟩
 case makeMap=>
  split at h
  case h_2=>cases h
  cases h
  exact ⟨_,rfl,fun _=>rfl⟩
 case call mp f args=>split at hk<;>cases hk
theorem VB {X:NA} {i j:Nat} {b:Blk} (h:i≠j):NC (X.set j b) i=NC X i:=by
 unfold NC;rw [Na,Na,Qs (Ne.symm h)]
theorem UY {o:AOp} (h:kind o=.s):XO o=true:=by
 cases o<;>(try (simp [kind] at h;done))<;>(try rfl)
 simp only [kind] at h
 split at h<;>cases h
theorem Ny0 {o:AOp} (h:XO o=true):kind o=.s/\makes o=false:=by
 cases o<;>simp [XO] at h
 exact ⟨rfl,rfl⟩
theorem Nyt {o:AOp} (hk:kind o=.s) {lim d:Nat} {ρ:Operand->Value} {H H':NA} {v:Value} (h:NJ lim (some d) o ρ H=some (v,H')) :
  ∃b,H'=H.set d b/\∀e,NC e d=NC H d->NJ lim (some d) o ρ e=some (v,e.set d b):=by
 have hs:=UY hk
 cases o<;>simp [XO] at hs
 rename_i n a x
 cases ha:ρ a with
 | pointer q=>
   cases q with
   | none=>simp [NJ,ha] at h
   | some p=>
     simp only [NJ,ha] at h⊢
     split at h
     case isFalse=>cases h
     rename_i hc
     simp only [Nb,Prod.mk.injEq] at h
     obtain ⟨K,h1,rfl,rfl⟩:=h
     unfold storeAt at h1
     rw [hc.1] at h1
     split at h1
     case h_2=>cases h1
     rename_i c f
     split at h1
     case isFalse=>cases h1
     rename_i hl
     cases h1
     refine ⟨_,rfl,fun e h2=>?_⟩
     rw [Nh hc]
     unfold storeAt
     rw [hc.1,h2,f]
     simp only
     rw [Nh hl]
     rfl
 | _=>simp [NJ,ha] at h
theorem Wp {o:AOp} {lim:Nat} {dest:Option Nat} {ρ:Operand->Value} {H:NA} {r} (h:NJ lim dest o ρ H=some r):NJ lim dest (Zb o) ρ H=some r:=by
 cases o<;>try exact h
 case loadO n x b=>
  simp only [NJ] at h
  split at h
  case h_2=>cases h
  rename_i p q ha c
  split at h
  case isFalse=>cases h
  cases n with
  | none=>simp only [Zb,NJ,ha];exact h
  | some k=>
    simp only [Zb,NJ,ha]
    simp only [loadX,Option.map_map] at h
    exact h
 case storeN n a x=>
  simp only [NJ] at h
  split at h
  case h_2=>cases h
  rename_i p ha
  split at h
  case isFalse=>cases h
  rename_i hc
  simp only [Zb,NJ,ha]
  rw [Nh hc.2]
  exact h
 case storeO n a x b=>
  simp only [NJ] at h
  split at h
  case h_2=>cases h
  rename_i p q ha c
  split at h
  case isFalse=>cases h
  rename_i hc
  simp only [Zb,NJ,ha]
  rw [Nh hc.2]
  exact h
 case loadR n x=>
  cases ha:ρ x with
  | pointer q=>
    cases q with
    | none=>simp [NJ,ha] at h
    | some p=>
      simp only [NJ,ha] at h
      split at h
      case isFalse=>cases h
      cases n with
      | none=>simp only [Zb,NJ,ha];exact h
      | some k=>
        simp only [Zb,NJ,ha]
        simp only [loadX,Option.map_map] at h
        exact h
  | _=>simp [NJ,ha] at h
 case storeD n a x=>
  cases dest with
  | none=>simp [NJ] at h
  | some d=>
    cases ha:ρ a with
    | pointer q=>
      cases q with
      | none=>simp [NJ,ha] at h
      | some p=>
        simp only [NJ,ha] at h
        split at h
        case isFalse=>cases h
        rename_i hc
        simp only [Zb,NJ,ha]
        rw [Nh hc.2]
        exact h
    | _=>simp [NJ,ha] at h
 case append0=>
  simp only [NJ] at h
  split at h
  ·rename_i hs;simp only [Zb,NJ,hs];exact h
  ·cases h
 case appendL=>
  simp only [NJ] at h
  split at h
  ·rename_i hs;simp only [Zb,NJ,hs];exact h
  ·rename_i hs
   split at h
   ·simp only [Zb,NJ,hs];exact h
   ·cases h
  ·cases h
theorem Ncw {o:AOp} (h:isL o=true):kind o=.w/\makes o=true/\isL (Zb o)=false/\kind (Zb o)=.w/\makes (Zb o)=true:=by
 cases o<;>simp [isL] at h
 simp [Zb,kind,makes,isL]
theorem Nt8 {o:AOp} (hL:isL o=true) {lim d:Nat} {ρ:Operand->Value} {H H':NA} {v:Value} (h:NJ lim (some d) o ρ H=some (v,H')) (j:Nat) (c:j≠d):H'[j]? = H[j]?\/H'[j]? = some .dead:=by
 cases o<;>simp [isL] at hL
 have set:∀{H:NA} {i:Nat} {b:Blk},j≠i->(H.set i b)[j]? = H[j]?:=fun {H i b} h=>by rw [N1,Ng (Ne.symm h)]
 have dead:∀{H:NA} {i:Nat},(H.set i .dead)[j]? = H[j]?\/(H.set i .dead)[j]? = some .dead:=fun {H i}=>by
  by_cases e:i=j
  ·subst e
   rw [N1,Nh rfl]
   by_cases hi:i<H.length
   ·rw [Nh hi];exact .inr rfl
   ·rw [Ng hi,Nu (by omega)];exact .inl rfl
  ·exact .inl (set (Ne.symm e))
 simp only [NJ] at h
 split at h
 ·unfold OU at h
  split at h
  case h_2=>cases h
  rename_i e1 e2 e3
  cases e1
  split at h
  ·cases h
  split at h
  ·cases h;exact .inl rfl
  simp only at h
  split at h
  ·cases h;exact .inl (set c)
  ·cases h
 ·split at h
  case isFalse=>cases h
  rename_i hc
  unfold OU at h
  split at h
  case h_2=>cases h
  rename_i e1 e2 e3
  cases e1
  split at h
  ·cases h
  split at h
  ·cases h;exact .inl rfl
  repeat' (split at h)
  all_goals first
   | (cases h;done)
   | contradiction
   | (cases h;exact .inl rfl)
   | (cases h;exact .inl (set c))
   | (cases h;rename_i a;simp only [place,Prod.mk.injEq] at a;obtain ⟨_,rfl⟩:=a;rw [set c];exact dead)
   | (cases h;rename_i a;simp only [place,Prod.mk.injEq] at a;obtain ⟨_,rfl⟩:=a;exact .inl (set c))
   | (exfalso;omega)
 ·cases h
theorem Nyv {o:AOp} (hk:kind o=.n) {lim d:Nat} {ρ:Operand->Value} {H H':NA} {v:Value} (h:NJ lim (some d) o ρ H=some (v,H')):H'=H\/∃b,H'=H.set d b:=by
 cases o<;>simp [kind] at hk<;>simp only [NJ] at h
 case append0=>
  split at h
  case h_2=>cases h
  unfold OU at h
  split at h
  case h_2=>cases h
  rename_i e1 e2 e3
  cases e1
  split at h
  ·cases h
  split at h
  ·cases h;exact .inl rfl
  split at h
  ·split at h
   ·simp only [UA] at h;cases h;exact .inr ⟨_,rfl⟩
   ·cases h
  ·split at h
   ·cases h
   split at h
   ·rename_i q;exact absurd q (by unfold loose;omega)
   ·split at h
    ·split at h
     ·omega
     ·simp only [UA] at h;cases h;exact .inr ⟨_,rfl⟩
    ·cases h
 case call mp f args=>split at hk<;>cases hk
theorem Nvo {o:AOp} {lim:Nat} {dest:Option Nat} {ρ ρ':Operand->Value} {H:NA} (h:∀x∈o.operands,ρ x=ρ' x):NJ lim dest o ρ H=NJ lim dest o ρ' H:=by
 have j:∀(ps:List (Nat×Nat×Operand)) (c:List Value),(∀x∈ps.map (·.2.2),ρ x=ρ' x)->R3 ρ ps c=R3 ρ' ps c:=by
  intro ps
  induction ps with
  | nil=>intro c _;rfl
  | cons p ps ih=>
    intro c hp
    obtain ⟨o,s,x⟩:=p
    simp only [R3,hp x (by simp)]
    split
    ·exact ih _ fun y d=>hp y (by simp at d⊢;exact .inr d)
    ·rfl
 have i:∀(len cap:Nat) (lo hi mx:Option Operand),(∀x∈lo.toList++hi.toList++mx.toList,ρ x=ρ' x)->bounds ρ len cap lo hi mx=bounds ρ' len cap lo hi mx:=by
  intro len cap lo hi mx g
  cases lo<;>cases hi<;>cases mx<;>simp at g<;>unfold bounds<;>(try simp only [g])
 cases o<;>simp only [AOp.operands] at h<;>simp only [NJ]
 case build z ps=>rw [j ps z h]
 case buildSlice n z ps=>rw [j ps z h]
 case sliceS e x lo hi mx=>
  have hx:=h x (by simp)
  have g:=fun len cap=>i len cap lo hi mx fun y d=>h y (Nj _ d)
  simp only [hx,TJ,g]
 case sliceA n e x lo hi mx=>
  have hx:=h x (by simp)
  have g:=fun len cap=>i len cap lo hi mx fun y d=>h y (Nj _ d)
  simp only [hx,g]
 case sliceStr x lo hi=>
  have hx:=h x (by simp)
  have g:=fun len cap=>i len cap lo hi none fun y d=>h y (Nj _ (by simpa using d))
  simp only [hx,g]
 case minmax mx xs=>
  cases xs with
  | nil=>rfl
  | cons x r=>simp only [h x (by simp),Pv fun y d=>h y (Nj _ d)]
 case makeMap hint=>
  cases hint with
  | none=>rfl
  | some x=>simp only [h x (by simp)]
 case makeFunc f a b=>
  rw [Pv fun y d=>h y (by simp [d]),Pv (l:=b) fun y d=>h y (by simp [d])]
 all_goals (first | rfl | (simp only [Nn,O1,or_false,forall_eq_or_imp,forall_eq] at h;simp only [h]))
structure CallOk0 (C:Tt):Prop where
 pure:∀lim g as H v H',C true lim g as H=some (v,H')->H'=H
 len:∀mp lim g as H v H',C mp lim g as H=some (v,H')->lim<=H.length->H.length<=H'.length
 keep:∀mp lim g as H v H',C mp lim g as H=some (v,H')->lim<=H.length->∀j,j<lim->H'[j]? = H[j]?
theorem SY {lim:Nat} {H H':NA} {a:Addr} {vs:List Value} (h:storeAt lim H a vs=some H'):H'.length=H.length:=by
 unfold storeAt at h
 split at h
 ·split at h
  ·cases h;simp
  ·cases h
 ·cases h
theorem Nb0 {o:AOp} (hL:isL o=false) (hk:kind o=.w) {lim d:Nat} {ρ:Operand->Value} {H H':NA} {v:Value} (h:NJ lim (some d) o ρ H=some (v,H')):H'.length=H.length:=by
 cases o<;>simp [kind] at hk<;>simp only [NJ] at h
 case store=>
  split at h
  ·split at h
   ·simp only [Nb,Prod.mk.injEq] at h;obtain ⟨_,h1,_,rfl⟩:=h;exact SY h1
   ·cases h
  ·cases h
 case storeN=>
  split at h
  ·split at h
   ·simp only [Nb,Prod.mk.injEq] at h;obtain ⟨_,h1,_,rfl⟩:=h;exact SY h1
   ·cases h
  ·cases h
 case storeO=>
  split at h
  ·split at h
   ·simp only [Nb,Prod.mk.injEq] at h;obtain ⟨_,h1,_,rfl⟩:=h;exact SY h1
   ·cases h
  ·cases h
 case append=>
  unfold OU at h
  split at h
  case h_2=>cases h
  split at h
  ·cases h
  split at h
  ·cases h;rfl
  split at h
  ·split at h
   ·simp only [UA] at h;cases h;simp
   ·cases h
  ·split at h
   ·cases h
   split at h
   ·split at h
    ·split at h
     ·simp only [UA] at h;cases h;simp
     ·cases h
    ·cases h
   ·split at h
    ·split at h
     ·split at h
      ·rename_i h1;cases h;exact SY h1
      ·cases h
     ·simp only [UA] at h;cases h;simp
    ·cases h
 case copy=>
  split at h
  ·split at h
   ·split at h
    ·split at h
     ·cases h;rfl
     ·simp only [Nb,Prod.mk.injEq] at h;obtain ⟨_,h1,_,rfl⟩:=h;exact SY h1
    ·split at h
     ·cases h;rfl
     ·cases h
   ·cases h
  ·cases h
 case mapUpdate=>
  split at h
  ·split at h
   ·split at h
    ·split at h<;>cases h<;>simp
    ·cases h
   ·cases h
  ·cases h
 case mapEntry=>
  split at h
  ·split at h
   ·split at h
    ·split at h<;>cases h<;>simp
    ·cases h
   ·cases h
  ·cases h
 case entryStore=>
  split at h
  ·split at h
   ·split at h
    ·cases h;simp
    ·cases h
   ·cases h
  ·cases h
 case clear=>
  split at h
  ·split at h
   ·cases h;rfl
   ·simp only [Nb,Prod.mk.injEq] at h;obtain ⟨_,h1,_,rfl⟩:=h;exact SY h1
  ·cases h
 case delete=>cases h
 case call=>split at hk<;>cases hk
 case appendL=>simp [isL] at hL
theorem Xq {o:AOp} (hk:kind o=.w) {lim d:Nat} {ρ:Operand->Value} {H H':NA} {v:Value} (h:NJ lim (some d) o ρ H=some (v,H')):H'.length=H.length:=by
 cases hL:isL o with
 | false=>exact Nb0 hL hk h
 | true=>obtain ⟨_,_,h1,h2,_⟩:=Ncw hL;exact Nb0 h1 h2 (Wp h)
structure Planned (x:AIns):Prop where
 bare:kind x.op=.p\/kind x.op=.a\/kind x.op=.s->x.mask=[]
 dest:makes x.op=true->∃r,x.dest=some r
 home:XO x.op=true->∃r,x.dest=some r
theorem YQ {o:AOp} (h:kind o=.a):makes o=true:=by cases o<;>simp_all [makes,kind]
theorem Yo {o:AOp} (hk:kind o=.w) (hm:makes o=false) {lim:Nat} {dest:Option Nat} {ρ:Operand->Value} {H H':NA} {v:Value} (h:NJ lim dest o ρ H=some (v,H')):H'.length=H.length:=by
 have key:NJ lim dest o ρ H=NJ lim (some 0) o ρ H:=by
  cases o<;>simp [kind] at hk<;>simp [makes] at hm<;>rfl
 rw [key] at h
 exact Xq hk h
section
variable {C:Tt} {N lim base:Nat}
def PE (C:Tt) (lim base:Nat) (i:AIns) (ρ:Operand->Value) (H:NA):Option (Value×NA):=
 match QZ C lim (i.dest.map (base+·)) i.op ρ (NU base i.mask H) with
 | some (v,H')=>some (v,NS base i.mask H H')
 | none=>none
theorem RY {i:AIns} {fr:Nat->Value} {H:NA}:Sm C N lim (some base) i fr H =
  match Rx N fr i.guard with
  | none=>none
  | some false=>some (undef,H)
  | some true=>PE C lim base i (ev fr) H:=rfl
theorem OI {o:AOp} (h:∀mp f args,o≠.call mp f args) (dest:Option Nat) (ρ:Operand->Value) (H:NA):QZ C lim dest o ρ H=NJ lim dest o ρ H:=by
 cases o<;>first | rfl | (exact absurd rfl (h _ _ _))
theorem Nt1 {o:AOp} (h:∃mp f args,o=.call mp f args):kind o=.r\/kind o=.c:=by
 obtain ⟨mp,f,args,rfl⟩:=h
 cases mp<;>simp [kind,CM.isPure]
theorem Yj {o:AOp} (h:kind o=.p\/kind o=.a\/kind o=.w):∀mp f args,o≠.call mp f args:=fun mp f args e=>by
 rcases Nt1 ⟨mp,f,args,e⟩ with h' | h'<;>rw [h'] at h<;>simp at h
theorem N0k {i:AIns} (hp:Planned i) (hk:kind i.op=.p) (ρ:Operand->Value) (H:NA):PE C lim base i ρ H=((NJ lim (i.dest.map (base+·)) i.op ρ []).map (·.1)).map (·,H):=by
 unfold PE
 rw [hp.bare (.inl hk),OI (Yj (.inl hk))]
 simp only [NU,NS,List.foldl_nil]
 rw [Ncv hk]
 cases (Option.map (fun x=>x.1) (NJ lim (Option.map (fun x=>base+x) i.dest) i.op ρ []))<;>rfl
theorem VR (hC:CallOk0 C) {i:AIns} (hk:kind i.op=.r) {ρ:Operand->Value} {H H':NA} {v:Value} (h:PE C lim base i ρ H=some (v,H')):H'=H:=by
 unfold PE at h
 split at h
 case h_2=>cases h
 rename_i b H1 h1
 cases h
 have:H1=NU base i.mask H:=by
  by_cases hc:∃mp f args,i.op=.call mp f args
  ·obtain ⟨mp,f,args,hc⟩:=hc
   rw [hc] at h1 hk
   have a:mp=.pure:=by cases mp<;>simp [kind,CM.isPure] at hk⊢
   subst a
   simp only [QZ] at h1
   split at h1
   ·exact hC.pure _ _ _ _ _ _ (Sn h1).1
   ·cases h1
  ·rw [OI (fun mp f args e=>hc ⟨mp,f,args,e⟩)] at h1
   exact Ww hk (fun mp f args e=>hc ⟨mp,f,args,e⟩) h1
 rw [this,RD]
theorem Nfc {i:AIns} (hp:Planned i) (hk:kind i.op=.a) {r:Nat} (hr:i.dest=some r) {ρ:Operand->Value} {H H':NA} {v:Value} (h:PE C lim base i ρ H=some (v,H')) :
  ∃b,H'=H.set (base+r) b/\∀c,PE C lim base i ρ c=some (v,c.set (base+r) b):=by
 unfold PE at h⊢
 rw [hp.bare (.inr (.inl hk)),OI (Yj (.inr (.inl hk))),hr] at h
 simp only [NU,NS,List.foldl_nil,Nr] at h
 split at h
 case h_2=>cases h
 rename_i d H1 h1
 cases h
 obtain ⟨b,e1,e2⟩:=Nyw hk h1
 refine ⟨b,e1,fun c=>?_⟩
 rw [hp.bare (.inr (.inl hk)),OI (Yj (.inr (.inl hk))),hr]
 simp only [NU,NS,List.foldl_nil,Nr,e2]
theorem Nqd {i:AIns} (hp:Planned i) (hk:kind i.op=.s) {r:Nat} (hr:i.dest=some r) {ρ:Operand->Value} {H H':NA} {v:Value} (h:PE C lim base i ρ H=some (v,H')) :
  ∃b,H'=H.set (base+r) b/\∀a,NC a (base+r)=NC H (base+r)->PE C lim base i ρ a=some (v,a.set (base+r) b):=by
 have c:∀mp f args,i.op≠.call mp f args:=fun mp f args e=>by have:=UY hk;rw [e] at this;simp [XO] at this
 unfold PE at h⊢
 rw [hp.bare (.inr (.inr hk)),OI c,hr] at h
 simp only [NU,NS,List.foldl_nil,Nr] at h
 split at h
 case h_2=>cases h
 rename_i d H1 h1
 cases h
 obtain ⟨b,e1,e2⟩:=Nyt hk h1
 refine ⟨b,e1,fun a h2=>?_⟩
 rw [hp.bare (.inr (.inr hk)),OI c,hr]
 simp only [NU,NS,List.foldl_nil,Nr,e2 a h2]
theorem Npb {o:AOp} (hk:kind o=.n) {lim d:Nat} {ρ:Operand->Value} {H H':NA} {v:Value} (h:NJ lim (some d) o ρ H=some (v,H')):H'.length=H.length:=by
 rcases Nyv hk h with rfl | ⟨b,rfl⟩
 ·rfl
 ·simp
theorem Nrd {o:AOp} (h:kind o=.n):makes o=true:=by
 cases o<;>(try (simp_all [makes,kind];done))
 rename_i mp f args
 cases mp<;>simp [kind,CM.isPure] at h
theorem Nck (base:Nat) (l:List Nat) (H:NA) (d:Nat) (b:Blk):NS base l H ((NU base l H).set d b)=H\/NS base l H ((NU base l H).set d b)=H.set d b:=by
 by_cases hd:∃i∈l,base+i=d
 ·left
  apply List.ext_getElem?
  intro j
  by_cases c:j<H.length
  ·by_cases hl:∃i∈l,base+i=j
   ·rw [Rz base H l _ hl (by simp [OQ];exact c),ME c]
   ·have a:∀i∈l,base+i≠j:=fun i hi e=>hl ⟨i,hi,e⟩
    rw [QN base H l _ a,N1,Ng (fun e=>hl (by rw [<-e];exact hd)),PX base l _ a]
  ·rw [Nu (by rw [OZ];simp [OQ];omega),Nu (by omega)]
 ·right
  apply List.ext_getElem?
  intro j
  by_cases c:j<H.length
  ·by_cases hl:∃i∈l,base+i=j
   ·rw [Rz base H l _ hl (by simp [OQ];exact c),N1,Ng (fun e=>hd (by rw [e];exact hl)),ME c]
   ·have a:∀i∈l,base+i≠j:=fun i hi e=>hl ⟨i,hi,e⟩
    rw [QN base H l _ a,N1,N1,OQ,PX base l _ a]
  ·rw [Nu (by rw [OZ];simp [OQ];omega),Nu (by simp;omega)]
theorem N0l {i:AIns} (hp:Planned i) (hk:kind i.op=.n) {ρ:Operand->Value} {H H':NA} {v:Value} (h:PE C lim base i ρ H=some (v,H')) :
  ∃r,i.dest=some r/\(H'=H\/∃b,H'=H.set (base+r) b):=by
 obtain ⟨r,hr⟩:=hp.dest (Nrd hk)
 refine ⟨r,hr, ?_⟩
 unfold PE at h
 have a:∀mp f args,i.op≠.call mp f args:=fun mp f args e=>by rw [e] at hk;cases mp<;>simp [kind,CM.isPure] at hk
 rw [OI a,hr] at h
 simp only [Nr] at h
 split at h
 case h_2=>cases h
 rename_i c H1 h1
 cases h
 rcases Nyv hk h1 with rfl | ⟨b,rfl⟩
 ·rw [RD];exact .inl rfl
 ·rcases Nck base i.mask H (base+r) b with e | e
  ·exact .inl e
  ·exact .inr ⟨b,e⟩
theorem N53 {o:AOp} (h:kind o=.c):∃mp f args,o=.call mp f args:=by
 cases o<;>simp [kind] at h
 exact ⟨_,_,_,rfl⟩
theorem Nj7 (hC:CallOk0 C) {i:AIns} (hp:Planned i) {ρ:Operand->Value} {A X:NA} {v:Value} (hl:lim<=A.length) (hs:QZ C lim (i.dest.map (base+·)) i.op ρ A=some (v,X)):A.length<=X.length/\(kind i.op≠.c->X.length=A.length):=by
 by_cases hc:∃mp f args,i.op=.call mp f args
 ·obtain ⟨mp,f,args,hc⟩:=hc
  rw [hc] at hs
  simp only [QZ] at hs
  split at hs
  case h_2=>cases hs
  have j:=(Sn hs).1
  have k:mp.lim lim A<=A.length:=by cases mp<;>simp [CM.lim,hl]
  refine ⟨hC.len _ _ _ _ _ _ _ j k,fun hk=>?_⟩
  rw [hc] at hk
  have l:mp=.pure:=by cases mp<;>simp [kind,CM.isPure] at hk⊢
  subst l
  rw [hC.pure _ _ _ _ _ _ j]
 ·have g:∀mp f args,i.op≠.call mp f args:=fun mp f args e=>hc ⟨mp,f,args,e⟩
  rw [OI g] at hs
  have:X.length=A.length:=by
   cases hk:kind i.op with
   | p=>rw [Ncv hk] at hs;simp only [Nb,Prod.mk.injEq] at hs;obtain ⟨_,_,_,h⟩:=hs;rw [h]
   | r=>rw [Ww hk g hs]
   | a=>
     obtain ⟨m,d⟩:=hp.dest (YQ hk)
     rw [d] at hs
     obtain ⟨b,e1,_⟩:=Nyw hk hs
     rw [e1];simp
   | w=>
     cases hm:makes i.op with
     | true=>
       obtain ⟨m,d⟩:=hp.dest hm
       rw [d] at hs
       exact Xq hk hs
     | false=>exact Yo hk hm hs
   | n=>
     obtain ⟨m,d⟩:=hp.dest (Nrd hk)
     rw [d] at hs
     exact Npb hk hs
   | c=>exact absurd (N53 hk) (fun ⟨_,_,_,e⟩=>g _ _ _ e)
   | s=>
     obtain ⟨m,d⟩:=hp.home (UY hk)
     rw [d] at hs
     obtain ⟨b,e1,_⟩:=Nyt hk hs
     rw [e1];simp
  exact ⟨by omega,fun _=>this⟩
theorem VS (hC:CallOk0 C) {i:AIns} (hp:Planned i) {ρ:Operand->Value} {H H':NA} {v:Value} (hl:lim<=H.length) (h:PE C lim base i ρ H=some (v,H')):H.length<=H'.length:=by
 unfold PE at h
 split at h
 case h_2=>cases h
 rename_i a X h1
 cases h
 have:=(Nj7 hC hp (by rw [OQ];exact hl) h1).1
 rw [OQ] at this
 rw [OZ];exact this
theorem Ug (hC:CallOk0 C) {i:AIns} (hp:Planned i) {r:Nat} (hr:r∈i.mask) (ρ:Operand->Value) (H:NA) (b:Blk) (hl:lim<=H.length) (a:base+r<H.length) :
  PE C lim base i ρ (H.set (base+r) b)=(PE C lim base i ρ H).map fun p=>(p.1,p.2.set (base+r) b):=by
 unfold PE
 rw [Nx4 base i.mask H hr b]
 cases hs:QZ C lim (i.dest.map (base+·)) i.op ρ (NU base i.mask H) with
 | none=>rfl
 | some p=>
   obtain ⟨v,X⟩:=p
   simp only [Nr]
   have c:=(Nj7 hC hp (by rw [OQ];exact hl) hs).1
   rw [OQ] at c
   rw [Nju base i.mask H X hr b a c]
theorem Nfb (hC:CallOk0 C) {i:AIns} (hp:Planned i) {r:Nat} (hr:r∈i.mask) {ρ:Operand->Value} {H H':NA} {v:Value} (hl:lim<=H.length) (b:base+r<H.length) (h:PE C lim base i ρ H=some (v,H')):NC H' (base+r)=NC H (base+r):=by
 have a:=VS hC hp hl h
 unfold PE at h
 split at h
 case h_2=>cases h
 rename_i c X h1
 cases h
 rw [OZ] at a
 have:=Rz base H i.mask X ⟨r,hr,rfl⟩ (by omega)
 unfold NC
 rw [Na,this]
 rfl
structure Sep (x y:AIns):Prop where
 apart:Nbj x y=true
 calm:AM.calm x.op y.op=true
 maskY:(kind y.op=.r\/kind y.op=.w\/kind y.op=.n\/kind y.op=.c)->∀r,x.dest=some r->r∈y.mask
 maskX:(kind x.op=.r\/kind x.op=.w\/kind x.op=.n\/kind x.op=.c)->∀r,y.dest=some r->r∈x.mask
 dests:∀r,x.dest=some r->y.dest≠some r
theorem Nx7 {i:AIns} {t:Nat} (h:Operand.tmp t∈i.op.operands):t∈i.looks:=by
 unfold AIns.looks
 exact Ov _ (List.mem_filterMap.2 ⟨.tmp t,h,rfl⟩)
theorem Nlk {i:AIns} {t:Nat} {b:Bool} (h:i.guard=some (t,b)):t∈i.looks:=by
 unfold AIns.looks
 rw [h]
 exact P9 _ (by simp)
theorem Mf {o:AOp} {dest:Option Nat} {ρ ρ':Operand->Value} {H:NA} (h:∀x∈o.operands,ρ x=ρ' x):QZ C lim dest o ρ H=QZ C lim dest o ρ' H:=by
 by_cases hc:∃mp f args,o=.call mp f args
 ·obtain ⟨mp,f,args,rfl⟩:=hc
  simp only [AOp.operands] at h
  simp only [QZ,h f (by simp),Pv fun y b=>h y (Nj _ b)]
 ·have a:∀mp f args,o≠.call mp f args:=fun mp f args e=>hc ⟨mp,f,args,e⟩
  rw [OI a,OI a]
  exact Nvo h
theorem Npf {b:Option Nat} {i:AIns} {fr:Nat->Value} {H:NA} {d:Nat} {v:Value} (h:d∉i.looks):Sm C N lim b i (upd fr d v) H=Sm C N lim b i fr H:=by
 have hw:Rx N (upd fr d v) i.guard=Rx N fr i.guard:=by
  cases hg:i.guard with
  | none=>rfl
  | some g=>
    obtain ⟨t,b⟩:=g
    have:t≠d:=fun e=>h (e▸Nlk hg)
    simp [Rx,upd,this]
 have he:∀x∈i.op.operands,ev (upd fr d v) x=ev fr x:=fun x hx=>by
  cases x with
  | tmp t=>
    have:t≠d:=fun e=>h (e▸Nx7 hx)
    simp [ev,upd,this]
  | _=>rfl
 unfold Sm
 rw [hw]
 cases b with
 | none=>simp only [Mf (C:=C) (lim:=lim) he]
 | some b=>simp only [Mf (C:=C) (lim:=lim) he]
theorem Neg {b:Option Nat} {i:AIns} {fr fr':Nat->Value} {H:NA} {dst:Option Nat} {v:Value} (hp:Ye N fr dst v=some fr') (h:∀d,dst=some d->d∉i.looks):Sm C N lim b i fr' H=Sm C N lim b i fr H:=by
 cases dst with
 | none=>cases hp;rfl
 | some d=>
   simp only [Ye] at hp
   split at hp
   ·cases hp;exact Npf (h d rfl)
   ·cases hp
theorem put_comm {fr fr1 fr2:Nat->Value} {x y:Option Nat} {v u:Value} (h1:Ye N fr x v=some fr1) (h2:Ye N fr1 y u=some fr2) (c:∀d,x=some d->y≠some d) :
  ∃a,Ye N fr y u=some a/\Ye N a x v=some fr2:=by
 cases x with
 | none=>cases h1;exact ⟨fr2,h2,rfl⟩
 | some d=>
   cases y with
   | none=>cases h2;exact ⟨fr,rfl,h1⟩
   | some e=>
     simp only [Ye] at h1 h2
     split at h1
     case isFalse=>cases h1
     rename_i hd
     split at h2
     case isFalse=>cases h2
     rename_i he
     cases h1;cases h2
     refine ⟨upd fr e u,by simp [Ye,he], ?_⟩
     have b:d≠e:=fun h=>c d rfl (by rw [h])
     simp only [Ye,hd,if_true,Option.some.injEq]
     funext t
     simp only [upd]
     by_cases h1:t=d
     ·subst h1;simp [b]
     ·simp [h1]
theorem TH {H:NA} {i:Nat} {b:Blk} (h:NC H i=b) (a:b≠.dead):H[i]? = some b:=by
 unfold NC at h
 rw [Na] at h
 cases hi:H[i]? with
 | none=>rw [hi] at h;simp at h;exact absurd h.symm a
 | some x=>rw [hi] at h;simp at h;rw [h]
theorem Nsn {o:AOp} (hr:isRead o=true) {lim:Nat} {dest:Option Nat} {ρ:Operand->Value} {H c:NA} {v:Value} (hk:∀(j:Nat) b,H[j]? = some b->c[j]? = some b) (h:NJ lim dest o ρ H=some (v,H)):NJ lim dest o ρ c=some (v,c):=by
 have f:∀{j:Nat} {b:Blk},b≠.dead->NC H j=b->NC c j=b:=fun {j b} d h=>by
  have:=hk j _ (TH h d)
  unfold NC;rw [Na,this];rfl
 have h1:∀{p:Addr} {z:Value},AM.loadCell H p=some z->AM.loadCell c p=some z:=fun {p z} a=>by
  unfold AM.loadCell at a⊢
  split at a
  ·rename_i d;rw [f (by intro e;cases e) d];exact a
  ·cases a
 have g:∀{p:Addr} {n:Nat} {z:List Value},AM.loadCells H p n=some z->AM.loadCells c p n=some z:=fun {p n z} a=>by
  unfold AM.loadCells at a⊢
  split at a
  ·rename_i d;rw [f (by intro e;cases e) d];exact a
  ·cases a
 have hM:∀{m:Value} {es:List (Value×Value)},mapEntries H m=some es->mapEntries c m=some es:=fun {m es} a=>by
  unfold mapEntries at a⊢
  split at a
  ·exact a
  ·split at a
   ·rename_i d;rw [f (by intro e;cases e) d];exact a
   ·cases a
  ·cases a
 cases o<;>simp [isRead] at hr<;>simp only [NJ] at h⊢
 case load1=>
  split at h
  ·simp only [Nb,Prod.mk.injEq] at h
   obtain ⟨z,a,rfl,_⟩:=h
   rw [h1 a];rfl
  ·cases h
 case loadN=>
  split at h
  ·simp only [Nb,Prod.mk.injEq] at h
   obtain ⟨z,a,rfl,_⟩:=h
   rw [g a];rfl
  ·cases h
 case lenMap=>
  simp only [Nb,Prod.mk.injEq] at h
  obtain ⟨z,a,rfl,_⟩:=h
  rw [hM a];rfl
 case lookup=>
  split at h
  ·rename_i a
   rw [hM a]
   simp only
   split at h
   ·rename_i hc
    rw [Nh hc]
    split at h<;>cases h<;>rfl
   ·cases h
  ·cases h
 case b2s=>
  split at h
  ·split at h
   ·rename_i hc;cases h;rw [Nh hc]
   ·cases h
  ·split at h
   ·rename_i a
    rw [g a]
    simp only
    split at h
    ·cases h;rfl
    ·cases h
   ·cases h
  ·cases h
theorem No5 {o:AOp} (hr:isLoad o=true) {lim:Nat} {dest:Option Nat} {ρ:Operand->Value} {A B:NA} {v:Value} (d:∀{j:Nat} {ro:Bool} {c:List Value},NC A j=.cells ro c->NC B j=.cells ro c) (h:NJ lim dest o ρ A=some (v,A)):NJ lim dest o ρ B=some (v,B):=by
 cases o<;>simp [isLoad] at hr<;>simp only [NJ] at h⊢
 case load1=>
  split at h
  ·rename_i p hp
   simp only [Nb,Prod.mk.injEq] at h
   obtain ⟨z,a,rfl,_⟩:=h
   have:AM.loadCell B p=some z:=by
    unfold AM.loadCell at a⊢
    split at a
    ·rename_i b;rw [d b];exact a
    ·cases a
   rw [this];rfl
  ·cases h
 case loadN nn e=>
  split at h
  ·rename_i p hp
   simp only [Nb,Prod.mk.injEq] at h
   obtain ⟨z,a,rfl,_⟩:=h
   have:AM.loadCells B p nn=some z:=by
    unfold AM.loadCells at a⊢
    split at a
    ·rename_i b;rw [d b];exact a
    ·cases a
   rw [this];rfl
  ·cases h
theorem Nd6 {o:AOp} (hr:UM o=true) {lim:Nat} {dest:Option Nat} {ρ:Operand->Value} {A B:NA} {v:Value} (c:∀{j:Nat},R9 (NC A j)=true->NC B j=NC A j) (h:NJ lim dest o ρ A=some (v,A)):NJ lim dest o ρ B=some (v,B):=by
 cases o<;>simp [UM] at hr
 rename_i n d
 simp only [NJ] at h⊢
 split at h
 ·rename_i p hp
  split at h
  case isFalse=>cases h
  rename_i a
  have e:=c a
  simp only [Nb,Prod.mk.injEq] at h
  obtain ⟨z,b,rfl,_⟩:=h
  have:AM.loadX n B p=some z:=by
   unfold AM.loadX AM.loadCell AM.loadCells at b⊢
   rw [e];exact b
  rw [e,Nh a,this];rfl
 ·cases h
theorem Nj3 {m:Nat} {p y:Operand} {lim:Nat} {dest:Option Nat} {ρ:Operand->Value} {A B:NA} {v:Value} (h:NJ lim dest (.storeN m p y) ρ A=some (v,B)):∀{j:Nat},R9 (NC A j)=true->NC B j=NC A j:=by
 intro j c
 simp only [NJ] at h
 split at h
 case h_2=>cases h
 rename_i a ha
 split at h
 case isFalse=>cases h
 rename_i hc
 simp only [Nb,Prod.mk.injEq] at h
 obtain ⟨d,hs,_,rfl⟩:=h
 have b:j≠a.block:=fun e=>by rw [e,hc.1] at c;cases c
 unfold storeAt at hs
 split at hs
 ·split at hs
  ·cases hs
   exact VB b
  ·cases hs
 ·cases hs
theorem Ny1 {a b:AOp} (h:isO a b=true):∃n x t m p y,a=.loadO n x (.tmp t)/\b=.storeO m p y (.tmp t):=by
 unfold isO at h
 split at h
 ·rename_i n x s m p y t
  rw [beq_iff_eq] at h
  subst h
  exact ⟨_,_,_,_,_,_,rfl,rfl⟩
 ·cases h
theorem No8 {n:Option Nat} {x b:Operand} {lim:Nat} {dest:Option Nat} {ρ:Operand->Value} {A B:NA} {v:Value} (f:∀q,ρ b=.pointer (some q)->∀{j:Nat} {ro:Bool} {c:List Value},j≠q.block->NC A j=.cells ro c->NC B j=.cells ro c) (h:NJ lim dest (.loadO n x b) ρ A=some (v,A)):NJ lim dest (.loadO n x b) ρ B=some (v,B):=by
 simp only [NJ] at h⊢
 split at h
 case h_2=>cases h
 rename_i p q hp g
 split at h
 case isFalse=>cases h
 rename_i a
 simp only [Nb,Prod.mk.injEq] at h
 obtain ⟨z,d,rfl,_⟩:=h
 have:AM.loadX n B p=some z:=by
  unfold AM.loadX AM.loadCell AM.loadCells at d⊢
  cases hc:NC A p.block with
  | cells ro c=>
    have e:=f q g a hc
    rw [hc] at d
    rw [e];exact d
  | _=>rw [hc] at d;cases n<;>simp at d
 rw [Nh a,this];rfl
theorem Nj2 {m:Nat} {p y b:Operand} {lim:Nat} {dest:Option Nat} {ρ:Operand->Value} {A B:NA} {v:Value} (h:NJ lim dest (.storeO m p y b) ρ A=some (v,B)):∀q,ρ b=.pointer (some q)->∀{j:Nat},j≠q.block->NC B j=NC A j:=by
 intro q e j d
 simp only [NJ] at h
 split at h
 case h_2=>cases h
 rename_i a g ha c
 rw [e] at c
 cases c
 split at h
 case isFalse=>cases h
 rename_i hc
 simp only [Nb,Prod.mk.injEq] at h
 obtain ⟨f,hs,_,rfl⟩:=h
 unfold storeAt at hs
 split at hs
 ·split at hs
  ·cases hs
   exact VB (by rw [hc.1];exact d)
  ·cases hs
 ·cases hs
theorem Nb3:∀{ks:List IntKind} {xs:List Value},RA ks xs=true->Tx xs xs=some true
 | [],[],_=>rfl
 | [],_::_,h=>by simp [RA] at h
 | k::ks,[],h=>by simp [RA] at h
 | k::ks,.int k' n::xs,h=>by
   simp only [RA,Nx] at h
   simp [Tx,Nb3 h.2]
theorem Nt5 {b:ByteArray}:Ub (.string b) (.string b)=some true:=by
 simp only [Ub,Option.some.injEq]
 rw [beq_toListBytes,ByteArray.toList_eq]
 exact beq_self_eq_true _
theorem Npc {kk:KK} {k:Value} (h:SF kk k=true):Ub k k=some true:=by
 unfold SF at h
 split at h
 ·simp [Ub]
 ·exact Nt5
 ·simp [Ub]
 ·exact Nb3 h
 ·cases h
theorem Nub {X:NA} {j:Nat} {b:Blk} (h:j<X.length):NC (X.set j b) j=b:=by simp [NC,h]
theorem Ny3 {a b:AOp} (h:isE a b=true):∃kk k n x y c,a=.lookup kk (.int k n) false (.tmp x) (.tmp y)/\b=.mapEntry c (.int k n) (.tmp x) (.tmp y):=by
 unfold isE at h
 split at h
 ·simp only [Nx,beq_iff_eq] at h
  obtain ⟨⟨⟨rfl,rfl⟩,rfl⟩,rfl⟩:=h
  exact ⟨_,_,_,_,_,_,rfl,rfl⟩
 ·cases h
theorem MN {k z:Value}:∀{es:List (Value×Value)} {i:Nat},AM.findKey k es i=some none->∀{kk:KK},SF kk k=true->∃j,AM.findKey k (es++[(k,z)]) i=some (some (j,z))
 | [],i,_,kk,hk=>⟨i,by simp [AM.findKey,Npc hk]⟩
 | (a,b)::es,i,h,kk,hk=>by
   rw [O5]
   unfold AM.findKey at h⊢
   split at h
   ·cases h
   ·rename_i e
    exact MN h hk
   ·cases h
theorem Nlj {kk o:KK} {k:IntKind} {n:Int} {x y:Nat} {lim lim':Nat} {dest a:Option Nat} {ρ:Operand->Value} {A A' B p:NA} {v u:Value}
  (h:NJ lim dest (.lookup kk (.int k n) false (.tmp x) (.tmp y)) ρ A=some (v,A)) (he:NJ lim' a (.mapEntry o (.int k n) (.tmp x) (.tmp y)) ρ B=some (u,p))
  {G:NA} (hA:∀r es,NC A r=.map es->NC G r=.map es) (hB:∀r es,NC B r=.map es->NC G r=.map es) (f:∀r es0 es es',NC A r=.map es0->NC B r=.map es->NC p r=.map es'->NC A' r=.map es'):NJ lim dest (.lookup kk (.int k n) false (.tmp x) (.tmp y)) ρ A'=some (v,A'):=by
 simp only [NJ] at h he⊢
 split at he
 case h_2=>cases he
 rename_i r hr
 split at he
 case h_2=>cases he
 rename_i es g
 split at he
 case isFalse=>cases he
 rename_i hc
 obtain ⟨es0,h0⟩:∃es0,mapEntries A (ρ (.tmp x))=some es0:=by
  cases hm:mapEntries A (ρ (.tmp x)) with
  | none=>rw [hm] at h;cases h
  | some es0=>exact ⟨es0,rfl⟩
 have c:NC A r=.map es0:=by
  rw [hr] at h0
  simp only [mapEntries] at h0
  split at h0
  ·rename_i q;cases h0;exact q
  ·cases h0
 obtain rfl:es0=es:=by
  have h1:=hA r es0 c
  rw [hB r es g] at h1
  cases h1;rfl
 rw [h0] at h
 replace h:(if SF kk (ρ (.tmp y))=true then _ else none)=_:=h
 split at h
 case isFalse=>cases h
 rename_i d
 split at he
 ·rename_i i w l
  cases he
  rw [l] at h
  have b:mapEntries A' (ρ (.tmp x))=some es0:=by rw [hr];simp [mapEntries,f r es0 es0 es0 c g g]
  rw [b]
  simp only [d,if_true,l]
  cases h;rfl
 ·rename_i l
  cases he
  rw [l] at h
  have m:r<B.length:=(List.getElem?_eq_some_iff.1 (TH g (by intro e;cases e))).1
  have b:mapEntries A' (ρ (.tmp x))=some (es0++[(ρ (.tmp y),.int k n)]):=by
   rw [hr];simp [mapEntries,f r es0 es0 _ c g (Nub m)]
  obtain ⟨j,s⟩:=MN (z:=.int k n) l d
  rw [b]
  simp only [d,if_true,s]
  cases h;rfl
 ·cases he
theorem Nrx (hC:CallOk0 C) {x y:AIns} (hx:Planned x) (hy:Planned y) (hs:Sep x y) {fr:Nat->Value} {H H1 I:NA} {v u:Value} (hl:lim<=H.length) (ab:∀r,x.dest=some r\/y.dest=some r->base+r<H.length) (h1:Sm C N lim (some base) x fr H=some (v,H1)) (h2:Sm C N lim (some base) y fr H1=some (u,I)) :
  ∃X,Sm C N lim (some base) y fr H=some (u,X)/\Sm C N lim (some base) x fr X=some (v,I):=by
 rw [RY] at h1 h2
 cases gx:Rx N fr x.guard with
 | none=>rw [gx] at h1;cases h1
 | some wx=>
 cases gy:Rx N fr y.guard with
 | none=>rw [gy] at h2;cases h2
 | some wy=>
 rw [gx] at h1
 rw [gy] at h2
 cases wx with
 | false=>cases h1;exact ⟨I,by rw [RY,gy];exact h2,by rw [RY,gx]⟩
 | true=>
 cases wy with
 | false=>cases h2;exact ⟨H,by rw [RY,gy],by rw [RY,gx];exact h1⟩
 | true=>
 simp only at h1 h2
 suffices hh:∃X,PE C lim base y (ev fr) H=some (u,X)/\PE C lim base x (ev fr) X=some (v,I) by
  obtain ⟨X,e1,e2⟩:=hh
  exact ⟨X,by rw [RY,gy];exact e1,by rw [RY,gx];exact e2⟩
 have al:∀{i:AIns} (hp:Planned i) (hk:kind i.op=.p) {A B:NA} {z:Value},PE C lim base i (ev fr) A=some (z,B)->B=A/\∀D,PE C lim base i (ev fr) D=some (z,D):=by
  intro i hp hk A B z h
  rw [N0k hp hk] at h
  cases hg:(NJ lim (i.dest.map (base+·)) i.op (ev fr) []).map (·.1) with
  | none=>rw [hg] at h;cases h
  | some c=>rw [hg] at h;cases h;exact ⟨rfl,fun D=>by rw [N0k hp hk,hg];rfl⟩
 by_cases a0:kind x.op=.p
 ·obtain ⟨rfl,E⟩:=al hx a0 h1
  exact ⟨I,h2,E I⟩
 by_cases a2:kind y.op=.p
 ·obtain ⟨rfl,E⟩:=al hy a2 h2
  exact ⟨H,E H,h1⟩
 by_cases hE:isE x.op y.op=true
 ·
  obtain ⟨kk,k,n,a,b,a5,ex,ey⟩:=Ny3 hE
  have Z:kind x.op=.r:=by rw [ex];rfl
  have ky:kind y.op=.w:=by rw [ey];rfl
  have Q:∀mp f args,x.op≠.call mp f args:=fun mp f args e=>by rw [ex] at e;cases e
  have aq:∀mp f args,y.op≠.call mp f args:=fun mp f args e=>by rw [ey] at e;cases e
  have e1:=VR hC Z h1
  subst e1
  refine ⟨I,h2, ?_⟩
  unfold PE at h1 h2⊢
  rw [OI Q] at h1⊢
  rw [OI aq] at h2
  split at h1
  case h_2=>cases h1
  rename_i v1 U hm
  simp only [Option.some.injEq,Prod.mk.injEq] at h1
  obtain ⟨rfl,_⟩:=h1
  have:=Ww Z Q hm
  subst this
  split at h2
  case h_2=>cases h2
  rename_i v2 Hn hn
  simp only [Option.some.injEq,Prod.mk.injEq] at h2
  obtain ⟨rfl,rfl⟩:=h2
  rw [ex] at hm⊢
  rw [ey] at hn
  have ae:∀(M:List Nat) (G:NA) r es,NC (NU base M G) r=.map es->(∀i∈M,base+i≠r)/\NC G r=.map es:=fun M G r es l=>by
   have L:r<G.length:=by
    have:=(List.getElem?_eq_some_iff.1 (TH l (by intro e;cases e))).1
    rwa [OQ] at this
   by_cases o:∃i∈M,base+i=r
   ·have:=TF base M _ o L
    unfold NC at l
    rw [Na,this] at l
    cases l
   ·have g:∀i∈M,base+i≠r:=fun i hi e=>o ⟨i,hi,e⟩
    refine ⟨g, ?_⟩
    have e1:NC (NU base M G) r=NC G r:=by
     unfold NC;rw [Na,PX base M _ g,<-Na]
    rw [<-e1];exact l
  have key:=Nlj (A':=NU base x.mask (NS base y.mask H1 Hn)) hm hn (fun r es h=>(ae _ _ r es h).2) (fun r es h=>(ae _ _ r es h).2) fun r ax es es' q1 q2 q3=>by
   have m1:=(ae _ _ r ax q1).1
   have m2:=(ae _ _ r es q2).1
   have e2:NC (NU base x.mask (NS base y.mask H1 Hn)) r=NC (NS base y.mask H1 Hn) r:=by
    unfold NC;rw [Na,PX base x.mask _ m1,<-Na]
   rw [e2]
   unfold NC at q3⊢
   rw [Na,QN base H1 y.mask Hn m2,<-Na]
   exact q3
  rw [key]
  simp only [RD]
 by_cases hR:(UM x.op&&Neb y.op)=true
 ·
  obtain ⟨F,V⟩:=Bool.and_eq_true_iff.1 hR
  have Z:kind x.op=.r:=by cases hx:x.op<;>rw [hx] at F<;>simp [UM] at F<;>rfl
  have Q:∀mp f args,x.op≠.call mp f args:=fun mp f args e=>by rw [e] at F;simp [UM] at F
  have e1:=VR hC Z h1
  subst e1
  refine ⟨I,h2, ?_⟩
  have S:H1.length<=I.length:=VS hC hy hl h2
  have O:∀{j:Nat},R9 (NC H1 j)=true->NC I j=NC H1 j:=fun {j} l=>by
   obtain ⟨ro,c,Y⟩:=SA l
   have L:j<H1.length:=(List.getElem?_eq_some_iff.1 (TH Y (by intro e;cases e))).1
   unfold PE at h2
   split at h2
   case h_2=>cases h2
   rename_i v1 U hm
   simp only [Option.some.injEq,Prod.mk.injEq] at h2
   obtain ⟨rfl,rfl⟩:=h2
   rw [OZ] at S
   by_cases o:∃i∈y.mask,base+i=j
   ·have:=Rz base H1 y.mask U o (by omega)
    unfold NC
    rw [Na,this]
    rfl
   ·have g:∀i∈y.mask,base+i≠j:=fun i hi e=>o ⟨i,hi,e⟩
    have ad:NC (NU base y.mask H1) j=NC H1 j:=by
     unfold NC
     rw [Na,PX base y.mask _ g,<-Na]
    have:=(by
     cases hyo:y.op<;>rw [hyo] at V hm<;>simp [Neb] at V
     rw [OI (by intro mp f args e;cases e)] at hm
     exact Nj3 hm (by rw [ad];exact l):NC U j=NC (NU base y.mask H1) j)
    rw [ad] at this
    unfold NC at this⊢
    rw [Na,QN base H1 y.mask U g,<-Na]
    exact this
  have o:∀{j:Nat},R9 (NC (NU base x.mask H1) j)=true->NC (NU base x.mask I) j=NC (NU base x.mask H1) j:=fun {j} l=>by
   obtain ⟨ro,c,Y⟩:=SA l
   have L:j<H1.length:=by
    have:=(List.getElem?_eq_some_iff.1 (TH Y (by intro e;cases e))).1
    rwa [OQ] at this
   by_cases hm:∃i∈x.mask,base+i=j
   ·have:=TF base x.mask _ hm L
    unfold NC at Y
    rw [Na,this] at Y
    cases Y
   ·have g:∀i∈x.mask,base+i≠j:=fun i hi e=>hm ⟨i,hi,e⟩
    have e1:NC (NU base x.mask H1) j=NC H1 j:=by
     unfold NC;rw [Na,PX base x.mask _ g,<-Na]
    have e2:NC (NU base x.mask I) j=NC I j:=by
     unfold NC;rw [Na,PX base x.mask _ g,<-Na]
    rw [e1] at l
    rw [e1,e2]
    exact O l
  unfold PE at h1⊢
  rw [OI Q] at h1⊢
  split at h1
  case h_2=>cases h1
  rename_i v1 U hm
  simp only [Option.some.injEq,Prod.mk.injEq] at h1
  obtain ⟨rfl,_⟩:=h1
  have:=Ww Z Q hm
  subst this
  rw [Nd6 F o hm]
  simp only [RD]
 have J:((((conflict (kind x.op) (kind y.op)=false\/(isL x.op=true/\isLoad y.op=true))\/(isRead x.op=true/\N25 y.op=true))\/(isLoad x.op=true/\isMaps y.op=true))\/(UM x.op=true/\isRecs y.op=true))\/isO x.op y.op=true:=by
  have:=hs.calm
  simpa [AM.calm,hE,hR] using this
 rcases J with J | hO
 case inr=>
  obtain ⟨n,ox,t,m,op,oy,ex,ey⟩:=Ny1 hO
  have Z:kind x.op=.r:=by rw [ex];rfl
  have ky:kind y.op=.w:=by rw [ey];rfl
  have Q:∀mp f args,x.op≠.call mp f args:=fun mp f args e=>by rw [ex] at e;cases e
  have aq:∀mp f args,y.op≠.call mp f args:=fun mp f args e=>by rw [ey] at e;cases e
  have e1:=VR hC Z h1
  subst e1
  refine ⟨I,h2, ?_⟩
  have O:∀q,ev fr (.tmp t)=.pointer (some q)->∀{j:Nat} {ro:Bool} {c:List Value},j≠q.block->NC H1 j=.cells ro c->NC I j=.cells ro c:=fun q hq {j ro c} ao l=>by
   have L:j<H1.length:=(List.getElem?_eq_some_iff.1 (TH l (by intro e;cases e))).1
   have S:H1.length<=I.length:=VS hC hy hl h2
   unfold PE at h2
   rw [OI aq] at h2
   split at h2
   case h_2=>cases h2
   rename_i v1 U hm
   simp only [Option.some.injEq,Prod.mk.injEq] at h2
   obtain ⟨rfl,rfl⟩:=h2
   rw [OZ] at S
   by_cases o:∃i∈y.mask,base+i=j
   ·have:=Rz base H1 y.mask U o (by omega)
    unfold NC
    rw [Na,this]
    exact l
   ·have g:∀i∈y.mask,base+i≠j:=fun i hi e=>o ⟨i,hi,e⟩
    rw [ey] at hm
    have hk:=Nj2 hm q hq ao
    have e2:NC (NU base y.mask H1) j=NC H1 j:=by
     unfold NC;rw [Na,PX base y.mask _ g,<-Na]
    rw [e2,l] at hk
    unfold NC at hk⊢
    rw [Na,QN base H1 y.mask U g,<-Na]
    exact hk
  have o:∀q,ev fr (.tmp t)=.pointer (some q)->∀{j:Nat} {ro:Bool} {c:List Value},j≠q.block->NC (NU base x.mask H1) j=.cells ro c->NC (NU base x.mask I) j=.cells ro c:=fun q hq {j ro c} ao l=>by
   have L:j<H1.length:=by
    have:=(List.getElem?_eq_some_iff.1 (TH l (by intro e;cases e))).1
    rwa [OQ] at this
   by_cases hm:∃i∈x.mask,base+i=j
   ·have:=TF base x.mask _ hm L
    unfold NC at l
    rw [Na,this] at l
    cases l
   ·have g:∀i∈x.mask,base+i≠j:=fun i hi e=>hm ⟨i,hi,e⟩
    have e1:NC (NU base x.mask H1) j=NC H1 j:=by
     unfold NC;rw [Na,PX base x.mask _ g,<-Na]
    have e2:NC (NU base x.mask I) j=NC I j:=by
     unfold NC;rw [Na,PX base x.mask _ g,<-Na]
    rw [e1] at l
    rw [e2]
    exact O q hq ao l
  unfold PE at h1⊢
  rw [OI Q] at h1⊢
  split at h1
  case h_2=>cases h1
  rename_i v1 U hm
  simp only [Option.some.injEq,Prod.mk.injEq] at h1
  obtain ⟨rfl,_⟩:=h1
  have:=Ww Z Q hm
  subst this
  rw [ex] at hm⊢
  rw [No8 o hm]
  simp only [RD]
 rcases J with J | ⟨F,V⟩
 case inr=>
  have Z:kind x.op=.r:=by cases hx:x.op<;>rw [hx] at F<;>simp [UM] at F<;>rfl
  have Q:∀mp f args,x.op≠.call mp f args:=fun mp f args e=>by rw [e] at F;simp [UM] at F
  have e1:=VR hC Z h1
  subst e1
  refine ⟨I,h2, ?_⟩
  have S:H1.length<=I.length:=VS hC hy hl h2
  have O:∀{j:Nat},R9 (NC H1 j)=true->NC I j=NC H1 j:=fun {j} l=>by
   obtain ⟨ro,c,Y⟩:=SA l
   have L:j<H1.length:=(List.getElem?_eq_some_iff.1 (TH Y (by intro e;cases e))).1
   unfold PE at h2
   split at h2
   case h_2=>cases h2
   rename_i v1 U hm
   simp only [Option.some.injEq,Prod.mk.injEq] at h2
   obtain ⟨rfl,rfl⟩:=h2
   rw [OZ] at S
   by_cases o:∃i∈y.mask,base+i=j
   ·have:=Rz base H1 y.mask U o (by omega)
    unfold NC
    rw [Na,this]
    rfl
   ·have g:∀i∈y.mask,base+i≠j:=fun i hi e=>o ⟨i,hi,e⟩
    have ad:NC (NU base y.mask H1) j=NC H1 j:=by
     unfold NC
     rw [Na,PX base y.mask _ g,<-Na]
    have an:WN (NU base y.mask H1) U=true:=by
     cases hyo:y.op<;>rw [hyo] at V hm<;>simp [isRecs] at V
     rename_i mp f args
     cases mp<;>simp at V
     simp only [QZ] at hm
     split at hm
     case h_2=>cases hm
     exact Nbc hm
    have:=Nh8 an (by rw [ad];exact l)
    rw [ad] at this
    unfold NC at this⊢
    rw [Na,QN base H1 y.mask U g,<-Na]
    exact this
  have o:∀{j:Nat},R9 (NC (NU base x.mask H1) j)=true->NC (NU base x.mask I) j=NC (NU base x.mask H1) j:=fun {j} l=>by
   obtain ⟨ro,c,Y⟩:=SA l
   have L:j<H1.length:=by
    have:=(List.getElem?_eq_some_iff.1 (TH Y (by intro e;cases e))).1
    rwa [OQ] at this
   by_cases hm:∃i∈x.mask,base+i=j
   ·have:=TF base x.mask _ hm L
    unfold NC at Y
    rw [Na,this] at Y
    cases Y
   ·have g:∀i∈x.mask,base+i≠j:=fun i hi e=>hm ⟨i,hi,e⟩
    have e1:NC (NU base x.mask H1) j=NC H1 j:=by
     unfold NC;rw [Na,PX base x.mask _ g,<-Na]
    have e2:NC (NU base x.mask I) j=NC I j:=by
     unfold NC;rw [Na,PX base x.mask _ g,<-Na]
    rw [e1] at l
    rw [e1,e2]
    exact O l
  unfold PE at h1⊢
  rw [OI Q] at h1⊢
  split at h1
  case h_2=>cases h1
  rename_i v1 U hm
  simp only [Option.some.injEq,Prod.mk.injEq] at h1
  obtain ⟨rfl,_⟩:=h1
  have:=Ww Z Q hm
  subst this
  rw [Nd6 F o hm]
  simp only [RD]
 rcases J with J | ⟨F,V⟩
 case inr=>
  have Z:kind x.op=.r:=by cases hx:x.op<;>rw [hx] at F<;>simp [isLoad] at F<;>rfl
  have Q:∀mp f args,x.op≠.call mp f args:=fun mp f args e=>by rw [e] at F;simp [isLoad] at F
  have e1:=VR hC Z h1
  subst e1
  refine ⟨I,h2, ?_⟩
  have S:H1.length<=I.length:=VS hC hy hl h2
  have O:∀{j:Nat} {ro:Bool} {c:List Value},NC H1 j=.cells ro c->NC I j=.cells ro c:=fun {j ro c} l=>by
   have L:j<H1.length:=(List.getElem?_eq_some_iff.1 (TH l (by intro e;cases e))).1
   unfold PE at h2
   split at h2
   case h_2=>cases h2
   rename_i v1 U hm
   simp only [Option.some.injEq,Prod.mk.injEq] at h2
   obtain ⟨rfl,rfl⟩:=h2
   rw [OZ] at S
   by_cases o:∃i∈y.mask,base+i=j
   ·have:=Rz base H1 y.mask U o (by omega)
    unfold NC
    rw [Na,this]
    exact l
   ·have g:∀i∈y.mask,base+i≠j:=fun i hi e=>o ⟨i,hi,e⟩
    have ad:NC (NU base y.mask H1) j=.cells ro c:=by
     unfold NC
     rw [Na,PX base y.mask _ g,<-Na]
     exact l
    have an:VE (NU base y.mask H1) U=true:=by
     cases hyo:y.op<;>rw [hyo] at V hm<;>simp [isMaps] at V
     rename_i mp f args
     cases mp<;>simp at V
     simp only [QZ] at hm
     split at hm
     case h_2=>cases hm
     exact (Sn hm).2 rfl
    have:=Nf9 an ad
    unfold NC at this⊢
    rw [Na,QN base H1 y.mask U g,<-Na]
    exact this
  have o:∀{j:Nat} {ro:Bool} {c:List Value},NC (NU base x.mask H1) j=.cells ro c->NC (NU base x.mask I) j=.cells ro c:=fun {j ro c} l=>by
   have L:j<H1.length:=by
    have:=(List.getElem?_eq_some_iff.1 (TH l (by intro e;cases e))).1
    rwa [OQ] at this
   by_cases hm:∃i∈x.mask,base+i=j
   ·have:=TF base x.mask _ hm L
    unfold NC at l
    rw [Na,this] at l
    cases l
   ·have g:∀i∈x.mask,base+i≠j:=fun i hi e=>hm ⟨i,hi,e⟩
    have e1:NC (NU base x.mask H1) j=NC H1 j:=by
     unfold NC;rw [Na,PX base x.mask _ g,<-Na]
    have e2:NC (NU base x.mask I) j=NC I j:=by
     unfold NC;rw [Na,PX base x.mask _ g,<-Na]
    rw [e1] at l
    rw [e2]
    exact O l
  unfold PE at h1⊢
  rw [OI Q] at h1⊢
  split at h1
  case h_2=>cases h1
  rename_i v1 U hm
  simp only [Option.some.injEq,Prod.mk.injEq] at h1
  obtain ⟨rfl,_⟩:=h1
  have:=Ww Z Q hm
  subst this
  rw [No5 F o hm]
  simp only [RD]
 rcases J with J | ⟨F,V⟩
 case inr=>
  have Z:kind x.op=.r:=by cases hx:x.op<;>rw [hx] at F<;>simp [isRead] at F<;>rfl
  have Q:∀mp f args,x.op≠.call mp f args:=fun mp f args e=>by rw [e] at F;simp [isRead] at F
  have e1:=VR hC Z h1
  subst e1
  refine ⟨I,h2, ?_⟩
  have S:H1.length<=I.length:=VS hC hy hl h2
  have O:∀j,j<H1.length->I[j]? = H1[j]?:=fun j l=>by
   unfold PE at h2
   split at h2
   case h_2=>cases h2
   rename_i v1 U hm
   simp only [Option.some.injEq,Prod.mk.injEq] at h2
   obtain ⟨rfl,rfl⟩:=h2
   rw [OZ] at S
   have hk:∀j,j<(NU base y.mask H1).length->U[j]? = (NU base y.mask H1)[j]?:=by
    cases hyo:y.op<;>rw [hyo] at V hm<;>simp [N25] at V
    rename_i mp f args
    cases mp<;>simp at V
    simp only [QZ] at hm
    split at hm
    case h_2=>cases hm
    exact hC.keep _ _ _ _ _ _ _ (Sn hm).1 (Nd _)
   by_cases o:∃i∈y.mask,base+i=j
   ·rw [Rz base H1 y.mask U o (by omega),ME l]
   ·have g:∀i∈y.mask,base+i≠j:=fun i hi e=>o ⟨i,hi,e⟩
    rw [QN base H1 y.mask U g,hk j (by rw [OQ];exact l),PX base y.mask _ g]
  have o:∀(j:Nat) b,(NU base x.mask H1)[j]? = some b->(NU base x.mask I)[j]? = some b:=fun j b l=>by
   have L:j<H1.length:=by
    have:=(List.getElem?_eq_some_iff.1 l).1
    rwa [OQ] at this
   by_cases hm:∃i∈x.mask,base+i=j
   ·rw [TF base x.mask _ hm L] at l
    rw [TF base x.mask _ hm (by omega)];exact l
   ·have g:∀i∈x.mask,base+i≠j:=fun i hi e=>hm ⟨i,hi,e⟩
    rw [PX base x.mask _ g] at l⊢
    rw [O j L];exact l
  unfold PE at h1⊢
  rw [OI Q] at h1⊢
  split at h1
  case h_2=>cases h1
  rename_i v1 U hm
  simp only [Option.some.injEq,Prod.mk.injEq] at h1
  obtain ⟨rfl,_⟩:=h1
  have:=Ww Z Q hm
  subst this
  rw [Nsn F o hm]
  simp only [RD]
 rcases J with J | ⟨hL,ag⟩
 case inr=>
  obtain ⟨Z,mx,_⟩:=Ncw hL
  have ky:kind y.op=.r:=by cases hy:y.op<;>rw [hy] at ag<;>simp [isLoad] at ag<;>rfl
  have e2:=VR hC ky h2
  subst e2
  refine ⟨H, ?_,h1⟩
  obtain ⟨d,hd⟩:=hx.dest mx
  have ay:=hs.maskY (.inl ky) d hd
  have hk:∀(j:Nat) b,b≠.dead->(NU base y.mask I)[j]? = some b->(NU base y.mask H)[j]? = some b:=by
   intro j b R l
   have S:I.length=H.length:=by
    unfold PE at h1
    rw [OI (Yj (.inr (.inr Z))),hd] at h1
    simp only [Nr] at h1
    split at h1
    case h_2=>cases h1
    rename_i v1 U hm
    cases h1
    rw [OZ,Xq Z hm,OQ]
   have L:j<I.length:=by
    have:=(List.getElem?_eq_some_iff.1 l).1
    rwa [OQ] at this
   by_cases hm:∃i∈y.mask,base+i=j
   ·rw [TF base y.mask I hm L] at l
    cases l;exact absurd rfl R
   ·have g:∀i∈y.mask,base+i≠j:=fun i hi e=>hm ⟨i,hi,e⟩
    rw [PX base y.mask _ g] at l⊢
    unfold PE at h1
    rw [OI (Yj (.inr (.inr Z))),hd] at h1
    simp only [Nr] at h1
    split at h1
    case h_2=>cases h1
    rename_i v1 U o
    cases h1
    by_cases av:∃i∈x.mask,base+i=j
    ·rw [Rz base H x.mask U av (by rwa [OZ] at L)] at l
     rw [<-l,ME (by omega)]
    ·have am:∀i∈x.mask,base+i≠j:=fun i hi e=>av ⟨i,hi,e⟩
     rw [QN base H x.mask U am] at l
     rcases Nt8 hL o j (fun e=>g d ay e.symm) with h | h
     ·rw [h,PX base x.mask _ am] at l;exact l
     ·rw [h] at l;cases l;exact absurd rfl R
  have ai:∀{j:Nat} {ro:Bool} {c:List Value},NC (NU base y.mask I) j=.cells ro c->NC (NU base y.mask H) j=.cells ro c:=fun {j ro c} h=>by
   have:=hk j _ (by intro e;cases e) (TH h (by intro e;cases e))
   unfold NC;rw [Na,this];rfl
  have ar:∀mp f args,y.op≠.call mp f args:=fun mp f args e=>by rw [e] at ag;simp [isLoad] at ag
  have au:NJ lim (y.dest.map (base+·)) y.op (ev fr) (NU base y.mask H)=some (u,NU base y.mask H):=by
   unfold PE at h2
   rw [OI ar] at h2
   split at h2
   case h_2=>cases h2
   rename_i v1 U hm
   simp only [Option.some.injEq,Prod.mk.injEq] at h2
   obtain ⟨rfl,_⟩:=h2
   cases hyo:y.op<;>rw [hyo] at ag hm<;>simp [isLoad] at ag
   ·simp only [NJ] at hm⊢
    split at hm
    ·rename_i p hp
     simp only [Nb,Prod.mk.injEq] at hm
     obtain ⟨z,hz,rfl,_⟩:=hm
     have:AM.loadCell (NU base y.mask H) p=some z:=by
      unfold AM.loadCell at hz⊢
      split at hz
      ·rename_i R;rw [ai R];exact hz
      ·cases hz
     rw [this];rfl
    ·cases hm
   ·rename_i nn oa
    simp only [NJ] at hm⊢
    split at hm
    ·rename_i p hp
     simp only [Nb,Prod.mk.injEq] at hm
     obtain ⟨z,hz,rfl,_⟩:=hm
     have:AM.loadCells (NU base y.mask H) p nn=some z:=by
      unfold AM.loadCells at hz⊢
      split at hz
      ·rename_i R;rw [ai R];exact hz
      ·cases hz
     rw [this];rfl
    ·cases hm
  unfold PE
  rw [OI ar,au]
  simp only [RD]
 by_cases aw:kind x.op=.s
 ·obtain ⟨r,hr⟩:=hx.home (UY aw)
  obtain ⟨b,rfl,E⟩:=Nqd hx aw hr h1
  by_cases ak:kind y.op=.s
  ·obtain ⟨r',P⟩:=hy.home (UY ak)
   obtain ⟨b',rfl,T⟩:=Nqd hy ak P h2
   have aa:r≠r':=fun e=>hs.dests r hr (by rw [P,e])
   exact ⟨_,T H (VB (by omega)).symm,by rw [E _ (VB (by omega)),List.set_comm _ _ (by omega)]⟩
  by_cases ac:kind y.op=.a
  ·obtain ⟨r',P⟩:=hy.dest (YQ ac)
   obtain ⟨b',rfl,T⟩:=Nfc hy ac P h2
   have aa:r≠r':=fun e=>hs.dests r hr (by rw [P,e])
   exact ⟨_,T H,by rw [E _ (VB (by omega)),List.set_comm _ _ (by omega)]⟩
  ·have ky:kind y.op=.r\/kind y.op=.w\/kind y.op=.n\/kind y.op=.c:=by
    cases hk:kind y.op<;>simp_all
   rw [Ug hC hy (hs.maskY ky r hr) _ _ _ hl (ab r (.inl hr))] at h2
   cases R:PE C lim base y (ev fr) H with
   | none=>rw [R] at h2;cases h2
   | some p=>
     obtain ⟨u',X⟩:=p
     rw [R] at h2
     cases h2
     exact ⟨X,rfl,E X (Nfb hC hy (hs.maskY ky r hr) hl (ab r (.inl hr)) R)⟩
 by_cases ak:kind y.op=.s
 ·obtain ⟨r,hr⟩:=hy.home (UY ak)
  obtain ⟨b,rfl,E⟩:=Nqd hy ak hr h2
  by_cases aj:kind x.op=.a
  ·obtain ⟨r',P⟩:=hx.dest (YQ aj)
   obtain ⟨b',rfl,T⟩:=Nfc hx aj P h1
   have aa:r'≠r:=fun e=>hs.dests r' P (by rw [hr,e])
   exact ⟨_,E H (VB (by omega)).symm,by rw [T,List.set_comm _ _ (by omega)]⟩
  ·have Z:kind x.op=.r\/kind x.op=.w\/kind x.op=.n\/kind x.op=.c:=by
    cases hk:kind x.op<;>simp_all
   exact ⟨_,E H (Nfb hC hx (hs.maskX Z r hr) hl (ab r (.inr hr)) h1).symm,by rw [Ug hC hx (hs.maskX Z r hr) _ _ _ hl (ab r (.inr hr)),h1];rfl⟩
 by_cases aj:kind x.op=.a
 ·obtain ⟨r,hr⟩:=hx.dest (YQ aj)
  obtain ⟨b,rfl,E⟩:=Nfc hx aj hr h1
  by_cases ac:kind y.op=.a
  ·obtain ⟨r',P⟩:=hy.dest (YQ ac)
   obtain ⟨b',rfl,T⟩:=Nfc hy ac P h2
   have aa:r≠r':=fun e=>hs.dests r hr (by rw [P,e])
   exact ⟨_,T H,by rw [E,List.set_comm _ _ (by omega)]⟩
  ·have ky:kind y.op=.r\/kind y.op=.w\/kind y.op=.n\/kind y.op=.c:=by
    cases hk:kind y.op<;>simp_all [conflict]
   rw [Ug hC hy (hs.maskY ky r hr) _ _ _ hl (ab r (.inl hr))] at h2
   cases R:PE C lim base y (ev fr) H with
   | none=>rw [R] at h2;cases h2
   | some p=>
     obtain ⟨u',X⟩:=p
     rw [R] at h2
     cases h2
     exact ⟨X,rfl,E X⟩
 by_cases ac:kind y.op=.a
 ·obtain ⟨r,hr⟩:=hy.dest (YQ ac)
  obtain ⟨b,rfl,E⟩:=Nfc hy ac hr h2
  have Z:kind x.op=.r\/kind x.op=.w\/kind x.op=.n\/kind x.op=.c:=by
   cases hk:kind x.op<;>simp_all [conflict]
  exact ⟨_,E H,by rw [Ug hC hx (hs.maskX Z r hr) _ _ _ hl (ab r (.inr hr)),h1];rfl⟩
 have two:(kind x.op=.r\/kind x.op=.n)/\(kind y.op=.r\/kind y.op=.n):=by
  cases hk:kind x.op<;>cases hk':kind y.op<;>simp_all [conflict]
 by_cases ap:kind x.op=.n\/kind y.op=.n
 ·have sx:H1=H\/∃r b,x.dest=some r/\H1=H.set (base+r) b:=by
   rcases two.1 with k | k
   ·exact .inl (VR hC k h1)
   ·obtain ⟨r,hr,h | ⟨b,h⟩⟩:=N0l hx k h1
    ·exact .inl h
    ·exact .inr ⟨r,b,hr,h⟩
  have az:kind x.op=.r\/kind x.op=.w\/kind x.op=.n\/kind x.op=.c:=by rcases two.1 with k | k<;>simp [k]
  have a1:kind y.op=.r\/kind y.op=.w\/kind y.op=.n\/kind y.op=.c:=by rcases two.2 with k | k<;>simp [k]
  have sy:∀{A B:NA} {z:Value},PE C lim base y (ev fr) A=some (z,B)->B=A\/∃r b,y.dest=some r/\B=A.set (base+r) b:=by
   intro A B z h
   rcases two.2 with k | k
   ·exact .inl (VR hC k h)
   ·obtain ⟨r,hr,h | ⟨b,h⟩⟩:=N0l hy k h
    ·exact .inl h
    ·exact .inr ⟨r,b,hr,h⟩
  have later:∀{u:Value} {K:NA},PE C lim base y (ev fr) H=some (u,K)->∃K2,PE C lim base x (ev fr) K=some (v,K2)/\(∀r b,y.dest=some r->K=H.set (base+r) b->K2=H1.set (base+r) b)/\(K=H->K2=H1):=by
   intro u K hK
   rcases sy hK with rfl | ⟨r,b,hr,rfl⟩
   ·refine ⟨H1,h1,fun r b hr R=>?_,fun _=>rfl⟩
    rcases sx with rfl | ⟨r',b',P,rfl⟩
    ·exact R
    ·have aa:r'≠r:=fun e=>hs.dests r' P (by rw [hr,e])
     rw [List.set_comm _ _ (by omega),<-R]
   ·refine ⟨H1.set (base+r) b,by rw [Ug hC hx (hs.maskX az r hr) _ _ _ hl (ab r (.inr hr)),h1];rfl,fun r' b' P R=>?_,fun R=>?_⟩
    ·rw [hr] at P;cases P
     rcases sx with rfl | ⟨r2,b2,W,rfl⟩
     ·exact R
     ·have aa:r2≠r:=fun e=>hs.dests r2 W (by rw [hr,e])
      rw [List.set_comm _ _ (by omega),List.set_comm _ _ (by omega:base+r2≠base+r),R]
    ·rcases sx with rfl | ⟨r2,b2,W,rfl⟩
     ·exact R
     ·have aa:r2≠r:=fun e=>hs.dests r2 W (by rw [hr,e])
      rw [List.set_comm _ _ (by omega),R]
  have a4:∃K,PE C lim base y (ev fr) H=some (u,K)/\(∀r b,x.dest=some r->H1=H.set (base+r) b->I=K.set (base+r) b)/\(H1=H->I=K):=by
   rcases sx with rfl | ⟨r,b,hr,rfl⟩
   ·refine ⟨I,h2,fun r b hr R=>?_,fun _=>rfl⟩
    rcases sy h2 with rfl | ⟨r2,b2,W,rfl⟩
    ·exact R
    ·have aa:r≠r2:=fun e=>hs.dests r hr (by rw [W,e])
     rw [List.set_comm _ _ (by omega),<-R]
   ·rw [Ug hC hy (hs.maskY a1 r hr) _ _ _ hl (ab r (.inl hr))] at h2
    cases R:PE C lim base y (ev fr) H with
    | none=>rw [R] at h2;cases h2
    | some p=>
      obtain ⟨u',K⟩:=p
      rw [R] at h2
      cases h2
      refine ⟨K,rfl,fun r' b' P ah=>?_,fun ah=>?_⟩
      ·rw [hr] at P;cases P
       rcases sy R with rfl | ⟨r2,b2,W,rfl⟩
       ·exact ah
       ·have aa:r≠r2:=fun e=>hs.dests r hr (by rw [W,e])
        rw [List.set_comm _ _ (by omega),List.set_comm _ _ (by omega:base+r2≠base+r),ah]
      ·rcases sy R with rfl | ⟨r2,b2,W,rfl⟩
       ·exact ah
       ·have aa:r≠r2:=fun e=>hs.dests r hr (by rw [W,e])
        rw [List.set_comm _ _ (by omega),ah]
  obtain ⟨K,k1,k2,k3⟩:=a4
  obtain ⟨K2,m1,m2,m3⟩:=later k1
  refine ⟨K,k1, ?_⟩
  rw [m1]
  congr 2
  rcases sx with rfl | ⟨r,b,hr,R⟩
  ·rw [k3 rfl]
   rcases sy k1 with e | ⟨r2,b2,W,e⟩
   ·rw [m3 e,e]
   ·rw [m2 r2 b2 W e,e]
  ·rw [k2 r b hr R]
   rcases sy k1 with e | ⟨r2,b2,W,e⟩
   ·rw [m3 e,R,e]
   ·have aa:r≠r2:=fun e=>hs.dests r hr (by rw [W,e])
    rw [m2 r2 b2 W e,R,e,List.set_comm _ _ (by omega)]
 have kr:kind x.op=.r/\kind y.op=.r:=by
  rcases two with ⟨k1 | k1,k2 | k2⟩
  ·exact ⟨k1,k2⟩
  ·exact absurd (.inr k2) ap
  ·exact absurd (.inl k1) ap
  ·exact absurd (.inl k1) ap
 have e1:=VR hC kr.1 h1
 subst e1
 have e2:=VR hC kr.2 h2
 subst e2
 exact ⟨_,h2,h1⟩
theorem Ny4 (hC:CallOk0 C) {x y:AIns} (hx:Planned x) (t:Planned y) (hs:Sep x y) {fr fr1 f:Nat->Value} {H H1 l:NA} (hl:lim<=H.length) (k:∀r,x.dest=some r\/y.dest=some r->base+r<H.length) (h1:Te C N lim (some base) x fr H=some (fr1,H1)) (h2:Te C N lim (some base) y fr1 H1=some (f,l)) :
  ∃b c,Te C N lim (some base) y fr H=some (b,c)/\Te C N lim (some base) x b c=some (f,l):=by
 have a:=hs.apart
 unfold Nbj at a
 have o:∀d,x.dst=some d->d∉y.looks:=fun d e=>by rw [e] at a;simp at a;exact a.1.1
 have q:∀d,x.dst=some d->y.dst≠some d:=fun d e=>by rw [e] at a;simp at a;exact a.1.2
 have a3:∀d,y.dst=some d->d∉x.looks:=fun d e=>by rw [e] at a;simp at a;exact a.2
 unfold Te at h1 h2
 cases hv:Sm C N lim (some base) x fr H with
 | none=>rw [hv] at h1;cases h1
 | some p=>
 obtain ⟨v,n⟩:=p
 rw [hv] at h1
 simp only [Nb,Prod.mk.injEq] at h1
 obtain ⟨f1,g,rfl,rfl⟩:=h1
 rw [Neg g o] at h2
 cases hu:Sm C N lim (some base) y fr n with
 | none=>rw [hu] at h2;cases h2
 | some p=>
 obtain ⟨u,w⟩:=p
 rw [hu] at h2
 simp only [Nb,Prod.mk.injEq] at h2
 obtain ⟨f2,j,rfl,rfl⟩:=h2
 obtain ⟨h,e1,e2⟩:=Nrx hC hx t hs hl k hv hu
 obtain ⟨i,m,s⟩:=put_comm g j q
 refine ⟨i,h,by simp only [Te,e1,m];rfl, ?_⟩
 unfold Te
 rw [Neg m a3,e2]
 simp [s]
def Y2 (C:Tt) (N lim:Nat) (base:Option Nat):List AIns->(Nat->Value)->NA->Option ((Nat->Value)×NA)
 | [],fr,H=>some (fr,H)
 | i::l,fr,H=>match Te C N lim base i fr H with
   | some (fr',H')=>Y2 C N lim base l fr' H'
   | none=>none
theorem WV {b:Option Nat} {i:AIns} {l:List AIns} {fr:Nat->Value} {H:NA} {r} (h:Y2 C N lim b (i::l) fr H=some r):∃fr' H',Te C N lim b i fr H=some (fr',H')/\Y2 C N lim b l fr' H'=some r:=by
 simp only [Y2] at h
 split at h
 ·rename_i fr' H' h1;exact ⟨fr',H',h1,h⟩
 ·cases h
theorem N28 (hC:CallOk0 C) {i:AIns} (hp:Planned i) {fr fr':Nat->Value} {H H':NA} (hl:lim<=H.length) (h:Te C N lim (some base) i fr H=some (fr',H')):H.length<=H'.length:=by
 unfold Te at h
 cases hv:Sm C N lim (some base) i fr H with
 | none=>rw [hv] at h;cases h
 | some p=>
   obtain ⟨v,K⟩:=p
   rw [hv] at h
   simp only [Nb,Prod.mk.injEq] at h
   obtain ⟨f,a,rfl,rfl⟩:=h
   rw [RY] at hv
   cases hw:Rx N fr i.guard with
   | none=>rw [hw] at hv;cases hv
   | some b=>
     rw [hw] at hv
     cases b with
     | false=>cases hv;exact Nd _
     | true=>exact VS hC hp hl hv
theorem N0j (hC:CallOk0 C) {x:AIns} (hx:Planned x) (B:List AIns):∀(A:List AIns) (fr:Nat->Value) (H:NA) (r),lim<=H.length->(∀r,x.dest=some r->base+r<H.length)->(∀a∈A,(Planned a/\Sep a x)/\∀r,a.dest=some r->base+r<H.length)->Y2 C N lim (some base) (A++x::B) fr H=some r->
  Y2 C N lim (some base) (x::(A++B)) fr H=some r
 | [],fr,H,r,_,_,_,h=>h
 | a::A,fr,H,r,hl,c,hA,h=>by
   obtain ⟨fr1,H1,h1,h2⟩:=WV h
   obtain ⟨⟨g,n⟩,j⟩:=hA a Nm
   have f:=N28 hC g hl h1
   have ih:=N0j hC hx B A fr1 H1 r (by omega) (fun r hr=>by have:=c r hr;omega) (fun b e=>⟨(hA b (Nj _ e)).1,fun r hr=>by have:=(hA b (Nj _ e)).2 r hr;omega⟩) h2
   obtain ⟨k,o,l,m⟩:=WV ih
   obtain ⟨d,i,e1,e2⟩:=Ny4 hC g hx n hl (fun r hr=>by rcases hr with hr | hr;exact j r hr;exact c r hr) h1 l
   simp only [O5,Y2,e1,e2]
   exact m
end
structure Grow (lim:Nat) (H H':NA):Prop where
 new:∀(j:Nat) b,H'[j]? = some b->alive b=true->H[j]? = some b\/(owned b=true/\lim<=j)
 keep:∀j,j<lim->H'[j]? = H[j]?
instance {lim:Nat} {H H':NA}:CoeFun (Grow lim H H') (fun _=>∀(j:Nat) b,H'[j]? = some b->alive b=true->H[j]? = some b\/(owned b=true/\lim<=j)):=⟨Grow.new⟩
theorem Grow.refl (lim:Nat) (H:NA):Grow lim H H:=⟨fun _ _ h _=>.inl h,fun _ _=>rfl⟩
theorem Grow.trans {lim:Nat} {A B C:NA} (h:Grow lim A B) (k:Grow lim B C):Grow lim A C:=⟨fun j b c ha=>by
 rcases k.new j b c ha with h1 | h1
 ·exact h.new j b h1 ha
 ·exact .inr h1,fun j a=>(k.keep j a).trans (h.keep j a)⟩
theorem Grow.weaken {lim lim':Nat} {A B:NA} (h:Grow lim' A B) (hl:lim<=lim'):Grow lim A B:=⟨fun j b a ha=>(h.new j b a ha).imp id fun h=>⟨h.1,by omega⟩,fun j c=>h.keep j (by omega)⟩
theorem Grow.set {lim:Nat} {H:NA} {i:Nat} {b:Blk} (hl:lim<=i) (a:alive b=true->owned b=true):Grow lim H (H.set i b):=⟨fun j c hc ha=>by
 rw [N1] at hc
 split at hc
 ·rename_i e
  split at hc
  ·cases hc;exact .inr ⟨a ha,e▸hl⟩
  ·cases hc
 ·exact .inl hc,fun j d=>by rw [N1,Ng (by omega)]⟩
theorem Grow.app {lim:Nat} {H X:NA} (hl:lim<=H.length) (d:∀b∈X,alive b=true->owned b=true):Grow lim H (H++X):=⟨fun j c hc ha=>by
 by_cases a:j<H.length
 ·rw [N4 a] at hc;exact .inl hc
 ·rw [Oc (by omega)] at hc
  exact .inr ⟨d c (N8 hc) ha,by omega⟩,fun j a=>N4 (by omega)⟩
theorem Grow.place {lim:Nat} {H:NA} {dest:Option Nat} {b:Blk} (a:owned b=true) (hd:∀d,dest=some d->lim<=d) (hl:lim<=H.length):Grow lim H (place dest b H).2:=by
 cases dest with
 | some d=>exact Grow.set (hd d rfl) fun _=>a
 | none=>exact Grow.app hl fun c hc _=>by simp at hc;subst hc;exact a
theorem Grow.dead {lim:Nat} {H:NA} (hl:lim<=H.length) (n:Nat):Grow lim H (H++List.replicate n .dead):=
 Grow.app hl fun b a ha=>by rw [(List.mem_replicate.1 a).2] at ha;simp [alive] at ha
theorem Sz {lim:Nat} {H H':NA} {a:Addr} {vs:List Value} (h:storeAt lim H a vs=some H'):Grow lim H H':=by
 unfold storeAt at h
 split at h
 ·split at h
  ·rename_i hc;cases h;exact Grow.set hc.1 fun _=>rfl
  ·cases h
 ·cases h
theorem Nfk {o:AOp} (hL:isL o=false) {lim:Nat} {dest:Option Nat} {ρ:Operand->Value} {H H':NA} {v:Value} (hn:kind o≠.n) (h:NJ lim dest o ρ H=some (v,H')) (hd:∀d,dest=some d->lim<=d) (hl:lim<=H.length):Grow lim H H':=by
 cases hk:kind o with
 | n=>exact absurd hk hn
 | p=>rw [(Nyu hk h).1];exact Grow.refl _ _
 | r=>
   by_cases hc:∃mp f args,o=.call mp f args
   ·obtain ⟨mp,f,args,rfl⟩:=hc;simp [NJ] at h
   ·rw [Ww hk (fun mp f args e=>hc ⟨mp,f,args,e⟩) h];exact Grow.refl _ _
 | c=>
   cases o<;>simp [kind] at hk
   simp [NJ] at h
 | a=>
   cases o<;>simp [kind] at hk<;>simp only [NJ] at h
   case alloc=>cases h;exact Grow.place (b:=.cells false _) rfl hd hl
   case box=>
    split at h
    case isFalse=>cases h
    cases h;exact Grow.place (b:=.cells false _) rfl hd hl
   case buildSlice=>
    split at h
    case h_2=>cases h
    cases h;exact Grow.place (b:=.cells false _) rfl hd hl
   case makeSlice=>
    split at h
    case h_2=>cases h
    split at h
    case isFalse=>cases h
    cases h;exact Grow.place (b:=.cells false _) rfl hd hl
   case growNil=>
    split at h
    case h_2=>cases h
    split at h
    case isFalse=>cases h
    cases h;exact Grow.place (b:=.cells false _) rfl hd hl
   case makeMap=>
    split at h
    case h_2=>cases h
    cases h;exact Grow.place (b:=.map []) rfl hd hl
   case call mp f args=>split at hk<;>cases hk
 | s=>
   have hs:=UY hk
   cases o<;>simp [XO] at hs
   rename_i n a x
   have h':=Wp h
   simp only [Zb,NJ] at h'
   split at h'
   ·split at h'
    ·simp only [Nb,Prod.mk.injEq] at h';obtain ⟨_,h1,_,rfl⟩:=h';exact Sz h1
    ·cases h'
   ·cases h'
 | w=>
   cases o<;>simp [kind] at hk<;>simp only [NJ] at h
   case store=>
    split at h
    ·split at h
     ·simp only [Nb,Prod.mk.injEq] at h;obtain ⟨_,h1,_,rfl⟩:=h;exact Sz h1
     ·cases h
    ·cases h
   case storeN=>
    split at h
    ·split at h
     ·simp only [Nb,Prod.mk.injEq] at h;obtain ⟨_,h1,_,rfl⟩:=h;exact Sz h1
     ·cases h
    ·cases h
   case storeO=>
    split at h
    ·split at h
     ·simp only [Nb,Prod.mk.injEq] at h;obtain ⟨_,h1,_,rfl⟩:=h;exact Sz h1
     ·cases h
    ·cases h
   case append=>
    unfold OU at h
    split at h
    case h_2=>cases h
    split at h
    ·cases h
    split at h
    ·cases h;exact Grow.refl _ _
    split at h
    ·split at h
     ·cases h;exact Grow.place (b:=.cells false _) rfl hd hl
     ·cases h
    ·split at h
     ·cases h
     split at h
     ·split at h
      ·split at h
       ·cases h
        exact (Grow.set (b:=.dead) ‹lim<=_› fun h=>by simp [alive] at h).trans (Grow.place (b:=.cells false _) rfl hd (by simpa using hl))
       ·cases h
      ·cases h
     ·split at h
      ·split at h
       ·split at h
        ·rename_i h1;cases h;exact Sz h1
        ·cases h
       ·cases h;exact Grow.place (b:=.cells false _) rfl hd hl
      ·cases h
   case copy=>
    split at h
    ·split at h
     ·split at h
      ·split at h
       ·cases h;exact Grow.refl _ _
       ·simp only [Nb,Prod.mk.injEq] at h;obtain ⟨_,h1,_,rfl⟩:=h;exact Sz h1
      ·split at h
       ·cases h;exact Grow.refl _ _
       ·cases h
     ·cases h
    ·cases h
   case mapEntry=>
    split at h
    ·split at h
     ·split at h
      ·rename_i hc
       split at h<;>cases h
       ·exact Grow.refl _ _
       ·exact Grow.set hc.2 fun _=>rfl
      ·cases h
     ·cases h
    ·cases h
   case entryStore=>
    split at h
    ·split at h
     ·split at h
      ·rename_i hc
       cases h
       exact Grow.set hc.2.2 fun _=>rfl
      ·cases h
     ·cases h
    ·cases h
   case mapUpdate=>
    split at h
    ·split at h
     ·split at h
      ·rename_i hc
       split at h<;>cases h
       ·exact Grow.set hc.2 fun _=>rfl
       ·exact Grow.set hc.2 fun _=>rfl
      ·cases h
     ·cases h
    ·cases h
   case clear=>
    split at h
    ·split at h
     ·cases h;exact Grow.refl _ _
     ·simp only [Nb,Prod.mk.injEq] at h;obtain ⟨_,h1,_,rfl⟩:=h;exact Sz h1
    ·cases h
   case delete=>cases h
   case call mp f args=>split at hk<;>cases hk
   case appendL=>simp [isL] at hL
theorem Nht {o:AOp} {lim:Nat} {dest:Option Nat} {ρ:Operand->Value} {H H':NA} {v:Value} (hn:kind o≠.n) (h:NJ lim dest o ρ H=some (v,H')) (hd:∀d,dest=some d->lim<=d) (hl:lim<=H.length):Grow lim H H':=by
 cases hL:isL o with
 | false=>exact Nfk hL hn h hd hl
 | true=>obtain ⟨_,_,h1,h2,_⟩:=Ncw hL;exact Nfk h1 (by rw [h2];simp) (Wp h) hd hl
theorem Nfl {o:AOp} {lim:Nat} {dest:Option Nat} {ρ:Operand->Value} {H H':NA} {v:Value} (h:NJ lim dest o ρ H=some (v,H')) (hd:∀d,dest=some d->lim<=d) (hl:lim<=H.length):Grow lim H H':=by
 by_cases hn:kind o=.n
 ·cases o<;>(try (simp [kind] at hn;done))
  ·exact Nht (by simp [Zb,kind]) (Wp h) hd hl
  ·rename_i mp f as'
   cases mp<;>simp [kind,CM.isPure] at hn
 ·exact Nht hn h hd hl
def R8 (Pg:Prg) (W:Nat->Prop) (lim:Nat) (σ:PH) (H:NA) (v:Value) (H':NA) (w:World):Ending->World->Prop:=fun e w'=>
 ∃v' a,e=.returned v'/\VRel a v v'/\Inv Pg W lim a H' w'/\Stp W w w'/\PH.le σ a/\∀j,a j≠σ j->H.length<=j
def SL (r:Loop) (args:Array Value):Array Value:=(r.params.zip args).foldl (fun tmps (t,a)=>tmps.setIfInBounds t a) r.tmps
structure CallOk (Pg:Prg) (C:Tt):Prop extends CallOk0 C where
 fn:∀mp lim g as H v H',C mp lim (.inl g) as H=some (v,H')->∃fn,Pg.P.funcs[g]? = some fn/\fn.body.isSome=true/\(fn.name == "runtime.NumGoroutine")=false
 calls:∀mp lim g as H v H',C mp lim (.inl g) as H=some (v,H')->lim<=H.length->∀W σ w as',Inv Pg W lim σ H w->OG σ as as'->Calls Pg.P g as'.toArray w (R8 Pg W lim σ H v H' w)
 rounds:∀mp lim i as H v H',C mp lim (.inr i) as H=some (v,H')->lim<=H.length->∀W σ w as' L,Inv Pg W lim σ H w->OG σ as as'->σ i=some L->
  ∃r,w.heap[L.blk]? = some (.loop r)/\as'.toArray.size=r.params.size/\RoundIn Fence.wide 0 Pg.P L.blk r.fn (SL r as'.toArray) r.assign r.body w (R8 Pg W lim σ H v H' w)
 grow:∀mp lim g as H v H',C mp lim g as H=some (v,H')->lim<=H.length->Grow lim H H'
def WF (ro:Option Nat):Fence:={ Fence.wide with round:=ro }
theorem ZY {ro:Option Nat}:(WF ro).depth.isSome=true->1<=0:=fun h=>by cases h
theorem Ne6 {ro:Option Nat} {n:Nat} {P:Program} {f:FuncId} {args:Array Value} {w:World} {R:Ending->World->Prop} (h:Calls P f args w R):CallsIn (WF ro) n P f args w R:=
 ⟨trivial,(callsIn_wide (n:=n).2 h).2⟩
theorem Ndr {ro:Option Nat} {n m:Nat} {P:Program} {l:Nat} {f:FuncId} {tmps:Array Value} {assign body:Code} {w:World} {R:Ending->World->Prop} (h:RoundIn Fence.wide m P l f tmps assign body w R):RoundIn (WF ro) n P l f tmps assign body w R:=
 ⟨trivial,fun c cs _=>h.2 c cs (room_wide _)⟩
section
variable {P:Program} {pf pureF:FuncId->Bool} {C:Tt} {W:Nat->Prop} {lim:Nat} {σ:PH} {H H':NA} {w:World} {dest:Option Nat}
def Zz (Pp:Prg) (W:Nat->Prop) (lim:Nat) (σ:PH) (dest:Option Nat) (H:NA) (w:World) (v:Value) (H':NA) (v':Value) (w':World) (a:PH):Prop:=
 VRel a v v'/\Inv Pp W lim a H' w'/\Stp W w w'/\PH.le σ a/\(∀j,a j≠σ j->dest=some j\/H.length<=j)/\H.length<=H'.length/\Grow lim H H'
theorem Ne9 {ρ':Operand->Value} {o:Oper} {c:Call} (ho:o.op=.call c) {f:Operand} (hc:c.callee=.value f) {g:FuncId} {fi ca:Array Value} (hf:ρ' f=.func (.func g) fi ca)
  {fn:Func} (h1:P.funcs[g]? = some fn) (h2:fn.body.isSome=true) (h3:(fn.name == "runtime.NumGoroutine")=false) :
  (execOp ρ' o).run P w=.ok (.enter g (fi++c.args.map ρ'++ca)) w:=by
 have hb:fn.body.isNone=false:=by cases h:fn.body<;>simp_all
 have h3':¬(fn.name= "runtime.NumGoroutine"):=by simpa using h3
 simp [execOp,ho,resolve,hc,Deferred.ofValue,hf,invoke,callFunc,h1,h3']
 intro h;rw [h] at h2;cases h2
theorem VRel.yld_left {i:Nat} {a ca:Array Value} {v':Value} (h:VRel σ (.func (.yield i) a ca) v'):∃L,σ i=some L/\a=#[]/\ca=#[]/\v'=.func (.yield L.blk) #[] #[]:=by
 cases h with
 | atom h=>simp [AM.atom] at h
 | yld h=>exact ⟨_,h,rfl,rfl,rfl⟩
theorem Ne8 {ρ':Operand->Value} {o:Oper} {c:Call} (ho:o.op=.call c) {f:Operand} (hc:c.callee=.value f) {l:Nat} (a:ρ' f=.func (.yield l) #[] #[])
  {r:Loop} (h1:w.heap[l]? = some (.loop r)) (h2:(c.args.map ρ').size=r.params.size) :
  (execOp ρ' o).run P w=.ok (.round l r.fn (SL r (c.args.map ρ')) r.assign r.body) w:=by
 have:=run_yield (P:=P) h1 h2
 simp [execOp,ho,resolve,hc,Deferred.ofValue,a,invoke]
 simpa [SL] using this
theorem CM.lim_le (mp:CM) (hl:lim<=H.length):lim<=mp.lim lim H/\mp.lim lim H<=H.length:=by cases mp<;>simp [CM.lim,hl]
theorem Inv.up {Pp:Prg} {lim':Nat} (h:Inv Pp W lim σ H w) (hl:lim<=lim'):Inv Pp W lim' σ H w:=⟨h.blk,h.inj,fun i b L a ho c hL=>h.wr i b L a ho (by omega) hL,h.fresh,h.dom⟩
theorem Inv.back {Pp:Prg} {lim':Nat} {d:PH} {w':World} (a:Inv Pp W lim σ H w) (h:Inv Pp W lim' d H' w') (hle:PH.le σ d) (g:Grow lim' H H'):Inv Pp W lim d H' w':=
 ⟨h.blk,h.inj,fun i b L f ho c hL=>(g.new i b f (PR ho)).elim (fun h1=>by
  obtain ⟨L0,h2,_⟩:=a.blk i b h1 (PR ho)
  have e:=hle _ _ h2
  rw [hL] at e;cases e
  exact a.wr i b L h1 ho c h2) (fun h1=>h.wr i b L f ho h1.2 hL),h.fresh,h.dom⟩
theorem Ndb (hC:CallOk (Prg.mk P pf) C) {O:Bool} {o:Oper} {N y:AOp} (k:Nal P pureF O o=some y) (R:N=y\/∃m f as,N=.call m f as/\y=.call .any f as) (t:Inv (Prg.mk P pf) W lim σ H w) (hl:lim<=H.length) (ac:∀d,dest=some d->lim<=d) (hd:∀d,dest=some d->d<H.length/\σ d=none)
  {ρ:Operand->Value} {a:Act} (hρ:∀x,PV x=true->VRel σ (ρ x) (a.eval x)) {v:Value} (hx:QZ C lim dest N ρ H=some (v,H'))
  {K:Act->World->Prop} {Q:Exit->Act->World->Prop} (hK:∀v' w' M,Zz (Prg.mk P pf) W lim σ dest H w v H' v' w' M->K (a.put o.dst v') w') {ro:Option Nat}:o.wpIn (WF ro) 0 P a w K Q:=by
 by_cases A:∃mp f args,N=.call mp f args
 ·obtain ⟨mp,f,args,rfl⟩:=A
  obtain ⟨Y,rfl⟩:∃Y,y=.call Y f args:=by
   rcases R with h | ⟨m',f',as',h,h'⟩
   ·exact ⟨mp,h.symm⟩
   ·cases h;exact ⟨.any,h'⟩
  have ag:∃c,o.op=.call c/\c.callee=.value f/\args=c.args.toList/\∀x∈o.op.operands,PV x=true:=by
   obtain ⟨dst,op,type,pos,after,guard⟩:=o
   unfold Nal at k
   split at k
   ·cases k
   rename_i U
   simp only [Bool.not_eq_true,Bool.not_eq_false'] at U
   have u:∀x∈op.operands,PV x=true:=fun x hx=>Nkx (o:=⟨dst,op,type,pos,after,guard⟩) (by simpa using U) hx
   cases op<;>(try simp only at k)<;>try (cases k;done)
   case call c=>
    refine ⟨c,rfl, ?_⟩
    cases hc:c.callee with
    | value f'=>rw [hc] at k;simp at k;obtain ⟨_,rfl,rfl⟩:=k;exact ⟨rfl,rfl,u⟩
    | invoke r m=>rw [hc] at k;simp at k
    | builtin b=>
      rw [hc] at k
      exfalso
      cases b<;>(try simp only at k)<;>(try (cases k;done))<;>(repeat' (split at k))<;>first
       | (cases k;done)
       | (simp only [Nb] at k;obtain ⟨_,_,k⟩:=k;cases k;done)
       | (exfalso;simp at k;done)
       | (obtain ⟨_,_,k⟩:=NV k;obtain ⟨_,_,k⟩:=NV k;obtain ⟨_,_,k⟩:=NV k;split at k<;>cases k;done)
   all_goals exfalso
   all_goals (repeat' (first | (obtain ⟨_,_,k⟩:=NV k) | split at k))
   all_goals first
    | (cases k;done)
    | (simp only [Nb] at k;obtain ⟨_,_,k⟩:=k;cases k;done)
    | contradiction
  obtain ⟨c,ho,q,rfl,u⟩:=ag
  simp only [QZ] at hx
  split at hx
  case h_2=>cases hx
  rename_i g as n
  replace hx:=(Sn hx).1
  obtain ⟨E,l⟩:=CM.lim_le mp hl
  have p:=t.up E
  generalize mp.lim lim H=lim' at hx E l p
  generalize mp.isPure=ah at hx
  have X:∀{ρ'},o.semAt (WF ro).round ρ'=execOp ρ' o:=fun {ρ'}=>Oper.semAt_eq _ _ _ fun c' e=>by rw [ho] at e;cases e
  refine ⟨fun _ _=>trivial, ?_⟩
  rw [X]
  have ae:PV f=true:=u f (by rw [ho];simp [Op.operands,Call.operands,q])
  have D:=hρ f ae
  have z:OG σ (c.args.toList.map ρ) (c.args.map a.eval).toList:=by
   have:(c.args.map a.eval).toList=c.args.toList.map a.eval:=by simp
   rw [this]
   exact Vy fun x hx=>hρ x (u x (by rw [ho];simp only [Op.operands,Call.operands,q];simp at hx⊢;exact .inr hx))
  unfold NF at n
  split at n
  case h_3=>cases n
  case h_2=>
   rename_i i fi ca hf
   simp only [Option.some.injEq,Prod.mk.injEq] at n
   obtain ⟨rfl,rfl⟩:=n
   rw [hf] at D
   obtain ⟨L,hL,rfl,rfl,I⟩:=D.yld_left
   simp only [On,Nc] at hx
   obtain ⟨r,h1,h2,h3⟩:=hC.rounds _ _ _ _ _ _ _ hx l W σ w _ L p z hL
   simp only [Array.toArray_toList] at h2 h3
   rw [Ne8 (P:=P) ho q I h1 h2,Oper.uponIn_round]
   refine ⟨ZY,Ndr (h3.mono fun en w' hp=>?_)⟩
   obtain ⟨v',M,rfl,Z,q2,q3,J,q5⟩:=hp
   exact hK v' w' M ⟨Z,t.back q2 J (hC.grow _ _ _ _ _ _ _ hx l),q3,J,fun j S=>.inr (q5 j S),hC.len _ _ _ _ _ _ _ hx l,(hC.grow _ _ _ _ _ _ _ hx l).weaken E⟩
  rename_i g' fi ca hf
  simp only [Option.some.injEq,Prod.mk.injEq] at n
  obtain ⟨rfl,rfl⟩:=n
  rw [hf] at D
  obtain ⟨G,F,I,ad,aa⟩:=D.func_left
  obtain ⟨fn,h1,h2,h3⟩:=hC.fn _ _ _ _ _ _ _ hx
  have V:=Ne9 (P:=P) (w:=w) ho q I h1 h2 h3
  have s:=hC.calls _ _ _ _ _ _ _ hx l W σ w (G.toList++(c.args.map a.eval).toList++F.toList) p ((ad.append z).append aa)
  have e:(G.toList++(c.args.map a.eval).toList++F.toList).toArray=G++c.args.map a.eval++F:=by
   apply Array.ext';simp
  rw [e] at s
  rw [V,Oper.uponIn_enter]
  refine ⟨ZY,Ne6 (s.mono fun en w' hp=>?_)⟩
  obtain ⟨v',M,rfl,Z,q2,q3,J,q5⟩:=hp
  exact hK v' w' M ⟨Z,t.back q2 J (hC.grow _ _ _ _ _ _ _ hx l),q3,J,fun j S=>.inr (q5 j S),hC.len _ _ _ _ _ _ _ hx l,(hC.grow _ _ _ _ _ _ _ hx l).weaken E⟩
 ·have T:∀mp f args,N≠.call mp f args:=fun mp f args e=>A ⟨mp,f,args,e⟩
  obtain rfl:N=y:=by
   rcases R with h | ⟨m',f',as',h,_⟩
   ·exact h
   ·exact absurd h (T _ _ _)
  rw [OI T] at hx
  obtain ⟨nx,w',M,v',hr,hn,Z,q2,q3,J,q5,q6,q7⟩:=Nvn k t hρ hd hx
  have B:Zz (Prg.mk P pf) W lim σ dest H w v H' v' w' M:=⟨Z,q2,q3,J,fun j S=>(q5 j S).imp id (·.2),q6,Nfl hx ac hl⟩
  have ab:∀c,o.op≠.defer c:=fun c e=>by
   obtain ⟨dst,op,type,pos,after,guard⟩:=o
   simp only at e
   subst e
   unfold Nal at k
   split at k<;>simp at k
  refine ⟨fun _ _=>trivial, ?_⟩
  rw [Oper.semAt_eq _ _ _ ab,hr]
  cases nx<;>simp [Nin] at hn
  ·subst hn;rw [Oper.uponIn_value];exact hK _ _ _ B
  ·subst hn;rw [Oper.uponIn_skip];exact hK _ _ _ B
theorem Nsb (hC:CallOk (Prg.mk P pf) C) {b:Bool} {o:Oper} {g:AOp} (f:Nal P pureF b o=some g) (c:Inv (Prg.mk P pf) W lim σ H w) (hl:lim<=H.length) (e:∀d,dest=some d->lim<=d) (hd:∀d,dest=some d->d<H.length/\σ d=none)
  {ρ:Operand->Value} {a:Act} (i:∀x,PV x=true->VRel σ (ρ x) (a.eval x)) {v:Value} (hx:QZ C lim dest g ρ H=some (v,H'))
  {K:Act->World->Prop} {Q:Exit->Act->World->Prop} (h:∀v' w' j,Zz (Prg.mk P pf) W lim σ dest H w v H' v' w' j->K (a.put o.dst v') w') {ro:Option Nat}:o.wpIn (WF ro) 0 P a w K Q:=
 Ndb hC f (.inl rfl) c hl e hd i hx h
end
section
variable {P:Program} {pf pureF:FuncId->Bool} {C:Tt} {W:Nat->Prop} {lim:Nat} {σ:PH} {H H':NA} {w:World} {dest:Option Nat} {ds:List Deferred} {ro:Option Nat}
theorem Inv.mask (base:Nat):∀(l:List Nat) {H:NA},Inv (Prg.mk P pf) W lim σ H w->Inv (Prg.mk P pf) W lim σ (NU base l H) w
 | [],_,h=>h
 | i::l,H,h=>by
   simp only [NU,Oi]
   exact Inv.mask base l (h.killAny (base+i))
theorem Nld (c:Inv (Prg.mk P pf) W lim σ H w) (base:Nat) (l:List Nat) (N:∀i∈l,∀b,H[base+i]? = some b->alive b=true->owned b=true) (M:lim<=base) :
  ∃K:Nat->Prop,Inv (Prg.mk P pf) K lim σ (NU base l H) w/\∀v g v' w' F,Zz (Prg.mk P pf) K lim σ dest (NU base l H) w v g v' w' F->Zz (Prg.mk P pf) W lim σ dest H w v (NS base l H g) v' w' F:=by
 refine ⟨fun b=>W b/\∀i∈l,∀bl L,H[base+i]? = some bl->alive bl=true->σ (base+i)=some L->L.blk≠b, ?_, ?_⟩
 ·have hm:=c.mask base l
  have get:∀(j:Nat) b,(NU base l H)[j]? = some b->alive b=true->H[j]? = some b/\∀i∈l,base+i≠j:=fun j b a ha=>by
   by_cases f:∃i∈l,base+i=j
   ·have y:j<H.length:=by
     have:=(List.getElem?_eq_some_iff.1 a).1
     rw [OQ] at this;exact this
    rw [TF base l H f y] at a
    cases a;simp [alive] at ha
   ·have n:∀i∈l,base+i≠j:=fun i hi e=>f ⟨i,hi,e⟩
    rw [PX base l H n] at a
    exact ⟨a,n⟩
  refine ⟨hm.blk,hm.inj,fun i b L a ho hl hL=>⟨hm.wr i b L a ho hl hL,fun k hk bl J u q t e=>?_⟩,fun b a=>⟨hm.fresh b a,fun k hk bl J u q t e=>?_⟩,hm.dom⟩
  ·obtain ⟨h1,h2⟩:=get i b a (PR ho)
   exact c.inj i (base+k) b bl L J h1 u (fun e=>h2 k hk e.symm) ho q hL t e.symm
  ·obtain ⟨U,h1,h2⟩:=c.blk (base+k) bl u q
   rw [t] at h1;cases h1
   have:=h2.lt q
   omega
 ·rintro v g v' w' F ⟨T,z,A,I,O,Q,R⟩
  rw [OQ] at O Q
  have E:Stp W w w':=⟨A.os,A.tape,A.output,A.size,fun b a=>A.block b fun h=>a h.1⟩
  have same:∀i L,σ i=some L->F i=some L:=I
  have get:∀(j:Nat) b,(NS base l H g)[j]? = some b->alive b=true->(H[j]? = some b/\∃i∈l,base+i=j)\/(g[j]? = some b/\∀i∈l,base+i≠j):=fun j b a ha=>by
   by_cases f:∃i∈l,base+i=j
   ·have y:j<g.length:=by
     have:=(List.getElem?_eq_some_iff.1 a).1
     rw [OZ] at this;exact this
    rw [Rz base H l g f y] at a
    simp only [Option.some.injEq] at a
    exact .inl ⟨QX a ha,f⟩
   ·have n:∀i∈l,base+i≠j:=fun i hi e=>f ⟨i,hi,e⟩
    rw [QN base H l g n] at a
    exact .inr ⟨a,n⟩
  have old:∀(j:Nat) b,g[j]? = some b->alive b=true->(∀i∈l,base+i≠j)->H[j]? = some b\/(owned b=true/\lim<=j):=fun j b a ha f=>by
   rcases R j b a ha with h | h
   ·rw [PX base l H f] at h;exact .inl h
   ·exact .inr h
  have p:∀(j:Nat) b Lj,H[j]? = some b->alive b=true->F j=some Lj->σ j=some Lj:=fun j b Lj a ha f=>by
   obtain ⟨L,h1,_⟩:=c.blk j b a ha
   have:=same _ _ h1
   rw [this] at f;cases f;exact h1
  refine ⟨T,⟨fun j b a ha=>?_,fun i j bi bj Li Lj G B r m d hi f=>?_,fun i b L a ho D hL=>?_,fun b a=>(z.fresh b a).1,fun j f=>z.dom j (by rw [OZ] at f;exact f)⟩,E,I,O,by rw [OZ];exact Q,⟨fun j b a ha=>?_,fun j f=>by
   have n:∀i∈l,base+i≠j:=fun i hi e=>by omega
   rw [QN base H l g n,R.keep j f,PX base l H n]⟩⟩
  ·rcases get j b a ha with ⟨h1,h2⟩ | ⟨h1,h2⟩
   ·obtain ⟨L,o,s⟩:=c.blk j b h1 ha
    refine ⟨L,same _ _ o,s.mono I fun _=>A.block _ fun S=>?_⟩
    obtain ⟨k,hk,rfl⟩:=h2
    exact S.2 k hk b L h1 ha o rfl
   ·exact z.blk j b h1 ha
  ·rcases get i bi G (PR m) with ⟨h1,h2⟩ | ⟨h1,h2⟩
   ·have x:=p i bi Li h1 (PR m) hi
    rcases get j bj B d with ⟨o,s⟩ | ⟨o,s⟩
    ·exact c.inj i j bi bj Li Lj h1 o r m d x (p j bj Lj o d f)
    ·rcases old j bj o d s with h | h
     ·exact c.inj i j bi bj Li Lj h1 h r m d x (p j bj Lj h d f)
     ·have:=z.wr j bj Lj o h.1 h.2 f
      obtain ⟨k,hk,rfl⟩:=h2
      exact this.2 k hk bi Li h1 (PR m) x
   ·rcases get j bj B d with ⟨o,s⟩ | ⟨o,s⟩
    ·have C:=p j bj Lj o d f
     rcases old i bi h1 (PR m) h2 with h | h
     ·exact c.inj i j bi bj Li Lj h o r m d (p i bi Li h (PR m) hi) C
     ·have:=z.wr i bi Li h1 h.1 h.2 hi
      obtain ⟨k,hk,rfl⟩:=s
      exact fun e=>this.2 k hk bj Lj o d C e.symm
    ·exact z.inj i j bi bj Li Lj h1 o r m d hi f
  ·rcases get i b a (PR ho) with ⟨h1,h2⟩ | ⟨h1,h2⟩
   ·exact c.wr i b L h1 ho D (p i b L h1 (PR ho) hL)
   ·exact (z.wr i b L h1 ho D hL).1
  ·rcases get j b a ha with ⟨h1,h2⟩ | ⟨h1,h2⟩
   ·exact .inl h1
   ·exact old j b h1 ha h2
structure FrRel (ds:List Deferred) (σ:PH) (N:Nat) (fr:Nat->Value) (a:Act):Prop where
 size:N<=a.tmps.size
 defers:a.defers=ds
 val:∀t,VRel σ (fr t) (a.tmps.getD t undef)
theorem FrRel.mono {σ τ:PH} {N:Nat} {fr:Nat->Value} {a:Act} (h:FrRel ds σ N fr a) (hle:PH.le σ τ):FrRel ds τ N fr a:=⟨h.size,h.defers,fun t=>(h.val t).mono hle⟩
theorem FrRel.ev {σ:PH} {N:Nat} {fr:Nat->Value} {a:Act} (h:FrRel ds σ N fr a) {x:Operand} (hx:PV x=true):VRel σ (ev fr x) (a.eval x):=by
 cases x with
 | tmp t=>exact h.val t
 | const v=>
   have hv:atom v=true:=by simpa [PV] using hx
   exact .atom hv
 | func f=>exact .atom rfl
 | global g=>simp [PV] at hx
theorem FrRel.put {σ:PH} {N:Nat} {fr fr':Nat->Value} {a:Act} (h:FrRel ds σ N fr a) {dst:Option Nat} {v v':Value} (hv:VRel σ v v') (hp:Ye N fr dst v=some fr'):FrRel ds σ N fr' (a.put dst v'):=by
 cases dst with
 | none=>cases hp;exact h
 | some d=>
   simp only [Ye] at hp
   split at hp
   case isFalse=>cases hp
   rename_i hd
   cases hp
   refine ⟨by simpa [Act.put] using h.size,h.defers,fun t=>?_⟩
   simp only [Act.put,upd,N2]
   by_cases e:t=d
   ·subst e
    have:t<a.tmps.size:=by have:=h.size;omega
    rw [Nh rfl,Array.getElem?_setIfInBounds_self_of_lt this]
    exact hv
   ·rw [Ng e,Pu (fun h=>e h.symm),<-N2]
    exact h.val t
theorem FrRel.wanted {σ:PH} {N:Nat} {fr:Nat->Value} {a:Act} (h:FrRel ds σ N fr a) {ops:Array Oper} {o:Oper} {g:Option (Nat×Bool)} (i:Me ops o.guard=some g) {b:Bool} (hw:Rx N fr g=some b) :
  Region.wanted o (yielded ops a.tmps)=b:=by
 unfold Me at i
 cases ho:o.guard with
 | none=>
   rw [ho] at i;simp at i;subst i
   simp [Rx] at hw;subst hw
   simp [Region.wanted,ho]
 | some p=>
   obtain ⟨j,c⟩:=p
   rw [ho] at i
   simp only at i
   split at i
   case h_2=>cases i
   rename_i t ht
   simp only [Option.some.injEq] at i;subst i
   simp only [Rx] at hw
   split at hw
   case isFalse=>cases hw
   rename_i m
   have l:t<a.tmps.size:=Nat.lt_of_lt_of_le m h.size
   have f:=h.val t
   rw [N2,Ny l] at f
   simp only [Pa] at f
   have n:yielded ops a.tmps j=match a.tmps[t] with | .bool b=>some b | _=>none:=by
    unfold yielded
    rw [ht]
    simp only [Option.bind_some,Ny l]
    cases a.tmps[t]<;>rfl
   simp only [Region.wanted,ho,n]
   split at hw
   ·rename_i d hd
    rw [hd] at f
    rw [f.bool_left]
    simp only [Option.some.injEq] at hw
    rw [<-hw]
    simp
   ·rename_i k
    simp only [Option.some.injEq] at hw
    rw [<-hw]
    have:∀d,a.tmps[t]≠.bool d:=fun d e=>by
     rw [e] at f
     generalize fr t=x at f k
     cases f
     exact k d rfl
    cases hx:a.tmps[t]<;>first | (exact absurd hx (this _)) | simp
structure State (Pp:Prg) (ds:List Deferred) (W:Nat->Prop) (lim:Nat) (σ:PH) (N:Nat) (fr:Nat->Value) (H:NA) (a:Act) (w:World):Prop where
 fr:FrRel ds σ N fr a
 inv:Inv Pp W lim σ H w
 lim:lim<=H.length
structure Kept (σ:PH) (H:NA) (base n:Nat) (todo:List Nat):Prop where
 len:base+n<=H.length
 own:∀r,r<n->∀b,H[base+r]? = some b->alive b=true->owned b=true
 free:∀r∈todo,σ (base+r)=none
 lt:∀r∈todo,r<n
theorem Ndc {C:Tt} {o:AOp} {lim:Nat} {dest:Option Nat} {ρ:Operand->Value} {H:NA} {r} (h:QZ C lim dest o ρ H=some r):QZ C lim dest (Zb o) ρ H=some r:=by
 by_cases hc:∃mp f args,o=.call mp f args
 ·obtain ⟨mp,f,args,rfl⟩:=hc;exact h
 ·have a:∀mp f args,o≠.call mp f args:=fun mp f args e=>hc ⟨mp,f,args,e⟩
  rw [OI a] at h
  have b:∀mp f args,Zb o≠.call mp f args:=fun mp f args e=>by
   cases o<;>simp only [Zb] at e<;>first | (cases e;done) | (exact a _ _ _ e) | (split at e<;>first | (cases e;done) | (rename_i c;cases c;done) | (exact a _ _ _ e))
  rw [OI b]
  exact Wp h
theorem N3q (hC:CallOk (Prg.mk P pf) C) {ops:Array Oper} {j:Nat} {o:Oper} (B:ops[j]? = some o) {i0:AIns} (k:Nqx P pureF true ops o=some i0) {i:AIns} (hi:i.dst=i0.dst/\i.guard=i0.guard/\(i.op=i0.op\/Zb i.op=i0.op\/∃m f as,i.op=.call m f as/\i0.op=.call .any f as)) (M:XO i0.op=false)
  {N base n:Nat} {fr fr':Nat->Value} {a:Act} (hs:State (Prg.mk P pf) ds W lim σ N fr H a w) (G:lim<=base) {todo:List Nat} (hk:Kept σ H base n todo) (A:∀r,i.made=some r->r∈todo/\r<n) (q:∀r∈i.mask,r<n)
  (hx:Te C N lim (some base) i fr H=some (fr',H')) {K:Act->World->Prop} {Q:Exit->Act->World->Prop}
  (S:∀t a' w',State (Prg.mk P pf) ds W lim t N fr' H' a' w'->Stp W w w'->PH.le σ t->Grow lim H H'->Kept t H' base n (todo.filter fun r=>i.made≠some r)->(∀j,t j≠σ j->(∃r,i.made=some r/\j=base+r)\/H.length<=j)->H.length<=H'.length->K a' w'):wpOpIn (WF ro) 0 P ops Q j K a w:=by
 obtain ⟨u,D,k⟩:=NV k
 obtain ⟨g,hg,k⟩:=NV k
 cases k
 obtain ⟨e1,e2,e3⟩:=hi
 simp only at e1 e2 e3
 unfold wpOpIn
 rw [B]
 simp only
 unfold Te at hx
 rw [RY,e2,e1] at hx
 cases hw:Rx N fr g with
 | none=>rw [hw] at hx;cases hx
 | some b=>
 rw [hs.fr.wanted hg hw]
 rw [hw] at hx
 cases b with
 | false=>
   simp only [Nz,if_false]
   simp only [Nb,Prod.mk.injEq] at hx
   obtain ⟨f,F,rfl,rfl⟩:=hx
   exact ⟨fun _ _=>trivial,S σ _ w ⟨hs.fr.put (.atom rfl) F,hs.inv,hs.lim⟩ (Stp.refl _ _) (PH.le_refl _) (Grow.refl _ _) ⟨hk.len,hk.own,fun r hr=>hk.free r (Oy.1 hr).1,fun r hr=>hk.lt r (Oy.1 hr).1⟩ (fun j B=>absurd rfl B) (Nd _)⟩
 | true=>
   simp only [if_true]
   simp only [PE] at hx
   split at hx
   case h_2=>cases hx
   rename_i v H1 hv
   split at hv
   case h_2=>cases hv
   rename_i v1 X c
   simp only [Option.some.injEq,Prod.mk.injEq] at hv
   obtain ⟨rfl,rfl⟩:=hv
   simp only [Nb,Prod.mk.injEq] at hx
   obtain ⟨f,F,rfl,rfl⟩:=hx
   obtain ⟨l,c,p⟩:∃l,QZ C lim (i.made.map (base+·)) l (ev fr) (NU base i.mask H)=some (v1,X)/\(l=u\/∃m f as,l=.call m f as/\u=.call .any f as):=by
    cases hS:XO i.op with
    | false=>
      have s:i.made=i.dest:=by simp [AIns.made,hS]
      rw [s]
      rcases e3 with e3 | e3 | ⟨T,R,as',e3,O⟩
      ·exact ⟨u,by rw [e3] at c;exact c,.inl rfl⟩
      ·exact ⟨u,by rw [<-e3];exact Ndc c,.inl rfl⟩
      ·exact ⟨_,c,.inr ⟨T,R,as',e3,O⟩⟩
    | true=>
      have s:i.made=none:=by simp [AIns.made,hS]
      rw [s]
      rcases e3 with e3 | e3 | ⟨T,R,as',e3,O⟩
      ·rw [e3,M] at hS;cases hS
      ·refine ⟨u, ?_,.inl rfl⟩
       have h2:=Ndc c
       rw [e3] at h2
       generalize aa:i.op=io at hS e3
       cases io<;>simp [XO] at hS
       simp only [Zb] at e3
       subst e3
       exact h2
      ·rw [e3] at hS;simp [XO] at hS
   have hd:∀d,i.made.map (base+·)=some d->∃r,i.made=some r/\d=base+r/\r∈todo/\r<n:=fun d e=>by
    simp only [Nb] at e
    obtain ⟨r,hr,rfl⟩:=e
    exact ⟨r,hr,rfl,A r hr⟩
   obtain ⟨Wm,I,J⟩:=Nld (dest:=i.made.map (base+·)) hs.inv base i.mask (fun r hr b E ha=>hk.own r (q r hr) b E ha) G
   refine Ndb hC D p I (by rw [OQ];exact hs.lim) (fun d e=>by obtain ⟨r,_,rfl,_⟩:=hd d e;omega)
    (fun d e=>by
     obtain ⟨r,_,rfl,h1,h2⟩:=hd d e
     rw [OQ]
     exact ⟨by have:=hk.len;omega,hk.free r h1⟩) (fun x hx=>hs.fr.ev hx) c fun v' w' t hn=>?_
   obtain ⟨q1,q2,q3,U,q5,q6,V⟩:=J _ _ _ _ _ hn
   have y:∀j,t j≠σ j->(∃r,i.made=some r/\j=base+r)\/H.length<=j:=fun j B=>by
    rcases q5 j B with h | h
    ·obtain ⟨r,h1,h2,_⟩:=hd j h
     exact .inl ⟨r,h1,h2⟩
    ·exact .inr h
   refine S t _ w' ⟨(hs.fr.mono U).put q1 F,q2,by have:=hs.lim;omega⟩ q3 U V ⟨by have:=hk.len;omega,fun r hr b E ha=>?_,fun r hr=>?_,fun r hr=>hk.lt r (Oy.1 hr).1⟩ y q6
   ·rcases V _ b E ha with h | h
    ·exact hk.own r hr b h ha
    ·exact h.1
   ·obtain ⟨h1,h2⟩:=Oy.1 hr
    have L:i.made≠some r:=by simpa using h2
    apply Of
    intro hc
    have z:=y (base+r) (fun e=>hc (by rw [e];exact hk.free r h1))
    rcases z with ⟨r',h3,h4⟩ | h3
    ·have:r'=r:=by omega
     subst this;exact L h3
    ·have Y:=hk.lt r h1;have Z:=hk.len;omega
end
theorem M7 {α β:Type} {f:α->Option β}:∀{l:List α} {r:List β},l.mapM f=some r->r.length=l.length/\∀(j:Nat) x y,l[j]? = some x->r[j]? = some y->f x=some y
 | [],r,h=>by simp at h;subst h;exact ⟨rfl,fun j x y hx=>by simp at hx⟩
 | a::l,r,h=>by
   rw [List.mapM_cons] at h
   obtain ⟨b,e,h⟩:=NV h
   obtain ⟨g,c,h⟩:=NV h
   cases h
   obtain ⟨h1,h2⟩:=M7 c
   refine ⟨by simp [h1],fun j x y hx d=>?_⟩
   cases j with
   | zero=>simp at hx d;subst hx d;exact e
   | succ j=>exact h2 j x y (by simpa using hx) (by simpa using d)
section
variable {P:Program} {pf pureF:FuncId->Bool} {C:Tt} {W:Nat->Prop} {lim:Nat} {σ:PH} {H H':NA} {w:World} {ds:List Deferred} {ro:Option Nat}
def N37 (Pp:Prg) (ds:List Deferred) (W:Nat->Prop) (lim:Nat) (σ:PH) (N:Nat) (fr':Nat->Value) (H H':NA) (w:World):Exit->Act->World->Prop:=fun e a' w'=>
 e=.normal/\∃a,State Pp ds W lim a N fr' H' a' w'/\Stp W w w'/\PH.le σ a/\Grow lim H H'/\(∀j,a j≠σ j->H.length<=j)/\H.length<=H'.length
theorem ZZ {ops:Array Oper} {listed:Array Bool} (b:∀(i:Nat) o,ops[i]? = some o->listed.getD i false=true->∀e∈o.after.toList,Region.binds .any e=true->listed.getD e.on false=true) :
  ∀(n x a:Nat),listed.getD x false=true->waits ops n x a=true->listed.getD a false=true
 | 0,x,a,_,h=>by simp [waits] at h
 | n+1,x,a,hx,h=>by
   unfold waits at h
   split at h
   ·rename_i o ho
    obtain ⟨e,he,h2⟩:=List.any_eq_true.1 h
    simp only [Nx,Bool.or_eq_true,beq_iff_eq] at h2
    have c:=b x o ho hx e he h2.1
    rcases h2.2 with h3 | h3
    ·rw [<-h3];exact c
    ·exact ZZ b n e.on a c h3
   ·cases h
theorem Ndx {ops:Array Oper}:∀(l b:List Nat),Nq6 ops b l=true->∀A i B,l=A++i::B->∀o,ops[i]? = some o->∀e∈o.after.toList,Region.binds .any e=true->e.on∈b++A
 | [],b,_,A,i,B,h=>by simp at h
 | x::l,b,hk,A,i,B,h=>by
   intro o ho e he c
   simp only [Nq6,Nx] at hk
   cases A with
   | nil=>
     simp only [On,List.cons.injEq] at h
     obtain ⟨rfl,rfl⟩:=h
     have h1:=hk.1
     rw [ho] at h1
     have:=N6.1 h1 e he
     rw [c] at this
     simpa using this
   | cons a A=>
     simp only [O5,List.cons.injEq] at h
     obtain ⟨rfl,h⟩:=h
     have:=Ndx l (b++[x]) hk.2 A i B h o ho e he c
     simpa using this
theorem Mx {ops:Array Oper} {L:List AIns}:∀(l b:List Nat),Ncs ops L b l=true->∀A i B,l=A++i::B->∀j∈b++A,Noc ops L i j=true
 | [],b,_,A,i,B,h=>by simp at h
 | x::l,b,hk,A,i,B,h=>by
   intro j c
   simp only [Ncs,Nx] at hk
   cases A with
   | nil=>
     simp only [On,List.cons.injEq] at h
     obtain ⟨rfl,rfl⟩:=h
     exact N6.1 hk.1 j (by simpa using c)
   | cons a A=>
     simp only [O5,List.cons.injEq] at h
     obtain ⟨rfl,h⟩:=h
     exact Mx l (b++[x]) hk.2 A i B h j (by simpa using c)
theorem Nbv:∀{l:List Nat},nodupB l=true->l.Nodup
 | [],_=>List.nodup_nil
 | x::l,h=>by
   simp only [nodupB,Nx,Bool.not_eq_true',List.contains_eq_mem,decide_eq_false_iff_not] at h
   exact List.nodup_cons.2 ⟨h.1,Nbv h.2⟩
theorem Nbm {ops:Array Oper} {ord:List Nat} (b:∀A i B,ord=A++i::B->∀o,ops[i]? = some o->∀e∈o.after.toList,Region.binds .any e=true->e.on∈A) :
  ∀(n x a:Nat),waits ops n x a=true->∀A B,ord=A++x::B->a∈A
 | 0,x,a,h=>by simp [waits] at h
 | n+1,x,a,h=>by
   intro A B hA
   unfold waits at h
   split at h
   ·rename_i o ho
    obtain ⟨e,he,h2⟩:=List.any_eq_true.1 h
    simp only [Nx,Bool.or_eq_true,beq_iff_eq] at h2
    have hm:=b A x B hA o ho e he h2.1
    rcases h2.2 with h3 | h3
    ·rw [<-h3];exact hm
    ·obtain ⟨c,d,rfl⟩:=List.append_of_mem hm
     have:=Nbm b n e.on a h3 c (d++x::B) (by rw [hA];simp)
     exact Ov _ this
   ·cases h
theorem Nax {ops:Array Oper} {listed:Array Bool} {i:Nat}:i∈Region.ready .any ops listed↔i<ops.size/\listed.getD i true=false/\∀o,ops[i]? = some o->∀e∈o.after.toList,Region.binds .any e=true->listed.getD e.on false=true:=by
 unfold Region.ready
 rw [Oy]
 simp only [List.mem_range,Nx,Bool.not_eq_true']
 constructor
 ·rintro ⟨h1,h2,a⟩
  refine ⟨h1,h2,fun o ho e he b=>?_⟩
  rw [ho] at a
  simp only [Nr,Pa] at a
  rw [<-Array.all_toList] at a
  have:=N6.1 a e he
  simpa [b] using this
 ·rintro ⟨h1,h2,a⟩
  refine ⟨h1,h2, ?_⟩
  have ho:ops[i]? = some ops[i]:=Ny h1
  rw [ho]
  simp only [Nr,Pa]
  rw [<-Array.all_toList]
  refine N6.2 fun e he=>?_
  cases b:Region.binds .any e with
  | false=>simp
  | true=>simpa using a _ ho e he b
theorem Ms:∀(l:List AOp) (n j:Nat),(QB.go n l).length=l.length/\(∀o r,l[j]? = some o->(QB.go n l)[j]? = some r->(makes o=true->∃k,r=some k/\n<=k/\k<n+((QB.go n l).filterMap id).length)/\(makes o=false->r=none))
 | [],n,j=>⟨rfl,fun o r h=>by simp at h⟩
 | o::l,n,j=>by
   unfold QB.go
   cases hm:makes o with
   | true=>
     simp only [if_true]
     obtain ⟨h1,h2⟩:=Ms l (n+1) (j-1)
     refine ⟨by simp [h1],fun c r ho hr=>?_⟩
     cases j with
     | zero=>simp at ho hr;subst ho hr;exact ⟨fun _=>⟨n,rfl,Nd _,(by simp)⟩,(fun h=>by rw [hm] at h;cases h)⟩
     | succ j=>
       obtain ⟨a,b⟩:=h2 c r (by simpa using ho) (by simpa using hr)
       refine ⟨fun h=>?_,b⟩
       obtain ⟨k,k1,k2,k3⟩:=a h
       refine ⟨k,k1,by omega, ?_⟩
       simp only [List.filterMap_cons,id,Nk]
       omega
   | false=>
     simp only [Nz,if_false]
     obtain ⟨h1,h2⟩:=Ms l n (j-1)
     refine ⟨by simp [h1],fun c r ho hr=>?_⟩
     cases j with
     | zero=>simp at ho hr;subst ho hr;exact ⟨(fun h=>by rw [hm] at h;cases h),fun _=>rfl⟩
     | succ j=>
       obtain ⟨a,b⟩:=h2 c r (by simpa using ho) (by simpa using hr)
       refine ⟨fun h=>?_,b⟩
       obtain ⟨k,k1,k2,k3⟩:=a h
       exact ⟨k,k1,k2,by simpa using k3⟩
theorem WO:∀(l:List AOp) (n i j k:Nat),(QB.go n l)[i]? = some (some k)->(QB.go n l)[j]? = some (some k)->i=j/\n<=k
 | [],n,i,j,k,h,_=>by simp [QB.go] at h
 | o::l,n,i,j,k,hi,hj=>by
   unfold QB.go at hi hj
   cases hm:makes o with
   | true=>
     rw [hm] at hi hj
     simp only [if_true] at hi hj
     cases i with
     | zero=>
       cases j with
       | zero=>simp at hi;exact ⟨rfl,by omega⟩
       | succ j=>
         simp at hi hj
         have:=(WO l (n+1) j j k hj hj).2
         omega
     | succ i=>
       cases j with
       | zero=>
         simp at hi hj
         have:=(WO l (n+1) i i k hi hi).2
         omega
       | succ j=>
         simp at hi hj
         have:=WO l (n+1) i j k hi hj
         omega
   | false=>
     rw [hm] at hi hj
     simp only [Nz,if_false] at hi hj
     cases i with
     | zero=>simp at hi
     | succ i=>
       cases j with
       | zero=>simp at hj
       | succ j=>
         simp at hi hj
         have:=WO l n i j k hi hj
         omega
structure Plan (P:Program) (pureF:FuncId->Bool) (ops:Array Oper) (n:Nat) (ord:List Nat) (L:List AIns):Prop where
 len:L.length=ops.size
 mem:∀i,i∈ord↔i<ops.size
 nodup:ord.Nodup
 back:∀A i B,ord=A++i::B->∀o,ops[i]? = some o->∀e∈o.after.toList,Region.binds .any e=true->e.on∈A
 ins:∀(j:Nat) o i,ops[j]? = some o->L[j]? = some i->∃i0,Nqx P pureF true ops o=some i0/\i.dst=i0.dst/\i.guard=i0.guard/\(i.op=i0.op\/Zb i.op=i0.op\/∃m f as,i.op=.call m f as/\i0.op=.call .any f as)/\XO i0.op=false
 planned:∀(j:Nat) i,L[j]? = some i->Planned i
 sep:∀A i B,ord=A++i::B->∀j∈A,∀x y,L[j]? = some x->L[i]? = some y->waits ops ops.size i j=false->Sep x y
 dest:∀(j:Nat) i r,L[j]? = some i->i.dest=some r->r<n
 mask:∀(j:Nat) i r,L[j]? = some i->r∈i.mask->r<n
 inj:∀(i j:Nat) x y r,L[i]? = some x->L[j]? = some y->x.made=some r->y.made=some r->i=j
theorem Nwk (i:AIns):(toL i).dst=i.dst/\(toL i).guard=i.guard/\((toL i).op=i.op\/Zb (toL i).op=i.op/\∃e b s x y,i.op=.append e b s x y/\∀f as,(toL i).op≠.call .any f as):=by
 unfold toL
 split
 ·rename_i h;exact ⟨rfl,rfl,.inr ⟨by rw [h];rfl,_,_,_,_,_,h,fun f as e=>by cases e⟩⟩
 ·exact ⟨rfl,rfl,.inl rfl⟩
theorem Npk (a:List AIns) (x:AIns):(fresh a x).dst=x.dst/\(fresh a x).guard=x.guard/\((fresh a x).op=x.op\/Zb (fresh a x).op=x.op/\∃e b s y z,(fresh a x).op=.append0 e b s y z):=by
 unfold fresh
 split
 ·rename_i c
  split
  ·exact ⟨rfl,rfl,.inr ⟨by simp only [c,Zb],_,_,_,_,_,rfl⟩⟩
  ·exact ⟨rfl,rfl,.inl rfl⟩
 ·exact ⟨rfl,rfl,.inl rfl⟩
theorem Nn7 (st:Bool) (c:List AIns) (x:AIns):(Yf st c x).dst=x.dst/\(Yf st c x).guard=x.guard/\((Yf st c x).op=x.op\/Zb (Yf st c x).op=x.op/\((∃e b s y z,(Yf st c x).op=.append0 e b s y z)\/∃n a z,(Yf st c x).op=.storeD n a z)):=by
 obtain ⟨f1,f2,f3⟩:=Npk c x
 unfold Yf
 split
 ·unfold toS
  split
  ·rename_i n t z d
   split
   ·refine ⟨f1,f2,.inr ⟨?_,.inr ⟨_,_,_,rfl⟩⟩⟩
    rcases f3 with f3 | ⟨_,_,_,_,_,_,f4⟩
    ·rw [<-f3,d];rfl
    ·rw [d] at f4;cases f4
   ·exact ⟨f1,f2,f3.imp id fun h=>⟨h.1,.inl h.2⟩⟩
  ·exact ⟨f1,f2,f3.imp id fun h=>⟨h.1,.inl h.2⟩⟩
 ·exact ⟨f1,f2,f3.imp id fun h=>⟨h.1,.inl h.2⟩⟩
theorem U8 (l:List AIns) (a:List (Option Nat)) (i:AIns):(Ndm l a i).dst=i.dst/\(Ndm l a i).guard=i.guard/\(Ndm l a i).op=i.op/\(Ndm l a i).mask=i.mask:=by
 unfold Ndm
 split<;>exact ⟨rfl,rfl,rfl,rfl⟩
theorem Xj {l:List AIns} {a:List (Option Nat)} {i:AIns} (h:XO i.op=false):Ndm l a i=i:=by
 unfold Ndm
 rw [h];rfl
theorem YL {ops:Array Oper} {L:List AIns} (h:N7f ops L=true) {i j:Nat} {x y:AIns} (hx:L[i]? = some x) (c:L[j]? = some y) (b:i≠j) (f:waits ops ops.size i j=false) (g:waits ops ops.size j i=false) (hs:XO x.op=true) {r:Nat} (hr:x.dest=some r) :
  y.dest≠some r/\(r∈y.mask\/kind y.op=.p\/kind y.op=.a\/kind y.op=.s):=by
 have hi:=(List.getElem?_eq_some_iff.1 hx).1
 have d:=(List.getElem?_eq_some_iff.1 c).1
 have:=N6.1 h i (List.mem_range.2 hi)
 rw [hx] at this
 simp only [hs,Q4,Bool.false_or] at this
 replace this:=N6.1 this j (List.mem_range.2 d)
 rw [c,f,g] at this
 simp only [hr] at this
 have e:(i == j)=false:=by simpa using b
 rw [e] at this
 simp at this
 obtain ⟨h1,h2⟩:=this
 refine ⟨h1, ?_⟩
 rcases h2 with ((h2 | h2) | h2) | h2
 ·exact .inl h2
 ·exact .inr (.inl h2)
 ·exact .inr (.inr (.inl h2))
 ·exact .inr (.inr (.inr h2))
theorem Nb6 {L:List AIns} {n:Nat} (h:Ny9 L n=true) {j:Nat} {x:AIns} (hx:L[j]? = some x) (hs:XO x.op=true):∃r,x.dest=some r/\r<n:=by
 have:=N6.1 h x (N8 hx)
 rw [hs] at this
 simp only [Q4,Bool.false_or] at this
 split at this
 ·rename_i r hr;exact ⟨r,hr,by simpa using this⟩
 ·cases this
theorem Nr6 (i:AIns):(Nnl P i).dst=i.dst/\(Nnl P i).guard=i.guard/\((Nnl P i).op=i.op\/∃m f as,(Nnl P i).op=.call m f as/\i.op=.call .any f as):=by
 unfold Nnl
 split
 ·rename_i h
  split
  ·exact ⟨rfl,rfl,.inr ⟨_,_,_,rfl,h⟩⟩
  ·exact ⟨rfl,rfl,.inr ⟨_,_,_,rfl,h⟩⟩
 ·rename_i h;exact ⟨rfl,rfl,.inr ⟨_,_,_,rfl,h⟩⟩
 ·exact ⟨rfl,rfl,.inl rfl⟩
theorem Nr5 {ops:Array Oper} {l:List AIns} {k:Nat} (i:AIns):(Nj0 ops l k i).dst=i.dst/\(Nj0 ops l k i).guard=i.guard/\((Nj0 ops l k i).op=i.op\/(Zb (Nj0 ops l k i).op=i.op/\Zb i.op=i.op)\/∃m f as,(Nj0 ops l k i).op=.call m f as/\i.op=.call .any f as):=by
 unfold Nj0
 split
 ·rename_i h
  split
  ·exact ⟨rfl,rfl,.inr (.inr ⟨_,_,_,rfl,h⟩)⟩
  ·exact ⟨rfl,rfl,.inl rfl⟩
 ·rename_i h
  split
  ·exact ⟨rfl,rfl,.inr (.inl ⟨by rw [h];rfl,by rw [h];rfl⟩)⟩
  ·split
   ·exact ⟨rfl,rfl,.inr (.inl ⟨by rw [h];rfl,by rw [h];rfl⟩)⟩
   ·exact ⟨rfl,rfl,.inl rfl⟩
 ·rename_i h
  split
  ·exact ⟨rfl,rfl,.inr (.inl ⟨by rw [h];rfl,by rw [h];rfl⟩)⟩
  ·split
   ·exact ⟨rfl,rfl,.inr (.inl ⟨by rw [h];rfl,by rw [h];rfl⟩)⟩
   ·exact ⟨rfl,rfl,.inl rfl⟩
 ·rename_i h
  split
  ·split
   ·exact ⟨rfl,rfl,.inr (.inl ⟨by rw [h];rfl,by rw [h];rfl⟩)⟩
   ·exact ⟨rfl,rfl,.inr (.inl ⟨by rw [h];rfl,by rw [h];rfl⟩)⟩
  ·exact ⟨rfl,rfl,.inl rfl⟩
 ·exact ⟨rfl,rfl,.inl rfl⟩
theorem Nb9 {st:Bool} {ops:Array Oper} {n:Nat} {M:List AIns} (h:WI P pureF st ops=some (.drawn n M)):∃ord L,Plan P pureF ops n ord L/\M=ord.map fun j=>L.getD j default:=by
 unfold WI at h
 obtain ⟨W,ax,h⟩:=NV h
 simp only at h
 generalize hk:late ops (W.map (Yf st W))=k at h
 generalize ah:((W.map (Yf st W)).zipIdx.map fun (i,j)=>if k=some j then toL i else i)=l2 at h
 generalize aj:(l2.zipIdx.map fun (i,j)=>if Nkk l2 then Nj0 ops l2 j i else if ZR ops l2 j then Nnl P i else i)=l at h
 generalize a6:N4g ops l.length (mks l) k=ord at h
 split at h
 case isFalse=>cases h
 rename_i hc
 simp only [Nx] at hc
 obtain ⟨⟨⟨⟨⟨H,ae⟩,T⟩,ak⟩,u⟩,C⟩:=hc
 simp only [pure,Option.some.injEq,ACode.drawn.injEq] at h
 obtain ⟨hn,hM⟩:=h
 generalize hL:(l.zipIdx.map fun (p:AIns×Nat)=>Ndm l (QB (l.map fun x=>x.op)) (QS ops (QB (l.map fun x=>x.op)) p.2 p.1))=L at hM u C
 refine ⟨ord,L, ?_,hM.symm⟩
 obtain ⟨ad,ab⟩:=M7 ax
 have ai:l.length=ops.toList.length:=by rw [<-aj,Nw,List.length_zipIdx,<-ah,Nw,List.length_zipIdx,Nw];exact ad
 have S:∀(j:Nat) z,l2[j]? = some z->∃d,W[j]? = some d/\z.dst=d.dst/\z.guard=d.guard/\(z.op=d.op\/(Zb z.op=d.op/\∀f as,z.op≠.call .any f as)):=fun j z K=>by
  rw [<-ah,O0,List.getElem?_zipIdx,O0] at K
  simp only [Nb] at K
  obtain ⟨p,⟨q,⟨d,h0,rfl⟩,rfl⟩,rfl⟩:=K
  refine ⟨d,h0, ?_⟩
  obtain ⟨f1,f2,f3⟩:=Nn7 st W d
  simp only
  split
  ·obtain ⟨t1,t2,g⟩:=Nwk (Yf st W d)
   refine ⟨t1.trans f1,t2.trans f2, ?_⟩
   rcases g with g | ⟨g,_,_,_,_,_,N,t5⟩
   ·rcases f3 with f3 | ⟨f3,⟨_,_,_,_,_,f4⟩ | ⟨_,_,_,f4⟩⟩
    ·exact .inl (g.trans f3)
    ·exact .inr ⟨by rw [g];exact f3,by rw [g,f4];intro _ _ h;cases h⟩
    ·exact .inr ⟨by rw [g];exact f3,by rw [g,f4];intro _ _ h;cases h⟩
   ·rcases f3 with f3 | ⟨f3,⟨_,_,_,_,_,f4⟩ | ⟨_,_,_,f4⟩⟩
    ·exact .inr ⟨g.trans f3,t5⟩
    ·rw [N] at f4;cases f4
    ·rw [N] at f4;cases f4
  ·refine ⟨f1,f2, ?_⟩
   rcases f3 with f3 | ⟨f3,⟨_,_,_,_,_,f4⟩ | ⟨_,_,_,f4⟩⟩
   ·exact .inl f3
   ·exact .inr ⟨f3,by rw [f4];intro _ _ h;cases h⟩
   ·exact .inr ⟨f3,by rw [f4];intro _ _ h;cases h⟩
 have aa:∀(j:Nat) z,l[j]? = some z->∃d,W[j]? = some d/\z.dst=d.dst/\z.guard=d.guard/\(z.op=d.op\/Zb z.op=d.op\/∃m f as,z.op=.call m f as/\d.op=.call .any f as):=fun j z K=>by
  rw [<-aj,O0,List.getElem?_zipIdx] at K
  simp only [Nb] at K
  obtain ⟨p,⟨q,hq,rfl⟩,rfl⟩:=K
  obtain ⟨d,h0,f1,f2,f3⟩:=S j q hq
  refine ⟨d,h0, ?_⟩
  simp only
  split
  ·obtain ⟨t1,t2,g⟩:=Nr5 (ops:=ops) (l:=l2) (k:=0+j) q
   refine ⟨t1.trans f1,t2.trans f2, ?_⟩
   rcases g with g | ⟨g,N⟩ | ⟨m,f,as,g,N⟩
   ·rcases f3 with f3 | f3
    ·exact .inl (g.trans f3)
    ·exact .inr (.inl (by rw [g];exact f3.1))
   ·rcases f3 with f3 | f3
    ·exact .inr (.inl (g.trans f3))
    ·exact .inr (.inl (g.trans (N.symm.trans f3.1)))
   ·rcases f3 with f3 | f3
    ·exact .inr (.inr ⟨m,f,as,g,f3.symm.trans N⟩)
    ·exact absurd N (f3.2 f as)
  split
  ·obtain ⟨t1,t2,g⟩:=Nr6 (P:=P) q
   refine ⟨t1.trans f1,t2.trans f2, ?_⟩
   rcases g with g | ⟨m,f,as,g,N⟩
   ·rcases f3 with f3 | f3
    ·exact .inl (g.trans f3)
    ·exact .inr (.inl (by rw [g];exact f3.1))
   ·rcases f3 with f3 | f3
    ·exact .inr (.inr ⟨m,f,as,g,f3.symm.trans N⟩)
    ·exact absurd N (f3.2 f as)
  ·exact ⟨f1,f2,f3.imp id fun h=>.inl h.1⟩
 have a5:(QB (l.map (·.op))).length=l.length:=by unfold QB;rw [(Ms _ 0 0).1];simp
 have get:∀(j:Nat) i,L[j]? = some i->∃i0,l[j]? = some i0/\i=Ndm l (QB (l.map (·.op))) (QS ops (QB (l.map (·.op))) j i0):=fun j i hi=>by
  rw [<-hL,O0,List.getElem?_zipIdx] at hi
  simp only [Nb] at hi
  obtain ⟨p,hp,rfl⟩:=hi
  obtain ⟨i0,h1,rfl⟩:=hp
  exact ⟨i0,h1,by simp⟩
 have rk:∀(j:Nat) i0,l[j]? = some i0->∃r,(QB (l.map (·.op)))[j]? = some r/\(makes i0.op=true->∃k,r=some k/\k<n)/\(makes i0.op=false->r=none):=fun j i0 ag=>by
  have hj:j<l.length:=(List.getElem?_eq_some_iff.1 ag).1
  have hr:(QB (l.map (·.op)))[j]? = some ((QB (l.map (·.op)))[j]'(by omega)):=Nf _
  refine ⟨_,hr, ?_⟩
  have:=(Ms (l.map (·.op)) 0 j).2 i0.op _ (by simp [ag]) (show (QB.go 0 (l.map (·.op)))[j]? = _ from hr)
  refine ⟨fun hm=>?_,this.2⟩
  obtain ⟨k,k1,k2,k3⟩:=this.1 hm
  exact ⟨k,k1,by rw [<-hn];simpa [QB] using k3⟩
 have getD:∀(j:Nat) r,(QB (l.map (·.op)))[j]? = some r->(QB (l.map (·.op))).getD j none=r:=fun j r h=>by
  rw [Na,h];rfl
 have lt:∀(j k:Nat),(QB (l.map (·.op))).getD j none=some k->k<n:=fun j k h=>by
  by_cases hj:j<l.length
  ·obtain ⟨r,r1,r2,r3⟩:=rk j _ (Nf hj)
   rw [getD j r r1] at h
   subst h
   cases hm:makes l[j].op with
   | true=>obtain ⟨k',k1,k2⟩:=r2 hm;simp at k1;omega
   | false=>have:=r3 hm;cases this
  ·rw [Na,Nu (by omega)] at h;cases h
 have v:=fun A i B h=>Ndx (ops:=ops) ord [] ae A i B h
 simp only [On] at v
 simp only [Nw0,Nx] at H
 obtain ⟨⟨a1,a2⟩,a4⟩:=H
 have G:=Nbv a4
 refine ⟨by rw [<-hL];simp [ai],fun i=>⟨fun hi=>by simpa using N6.1 a1 i hi,fun hi=>by simpa using N6.1 a2 i (by simpa using hi)⟩,G,v,fun j o i ho hi=>?_,fun j i hi=>?_,fun A i B R j ac x y hx hy w1=>?_,fun j i r hi hr=>?_,fun j i r hi hr=>?_,fun i j x y r hx hy h1 h2=>?_⟩
 ·obtain ⟨i0,h1,rfl⟩:=get j i hi
  obtain ⟨z,K,f1,f2,f3⟩:=aa j i0 h1
  obtain ⟨O,Q,g3,_⟩:=U8 l (QB (l.map (·.op))) (QS ops (QB (l.map (·.op))) j i0)
  refine ⟨z,ab j o z (by simpa using ho) K,by rw [O];exact f1,by rw [Q];exact f2,by rw [g3];exact f3, ?_⟩
  have:=N6.1 ak z (N8 K)
  simpa using this
 ·have hi':=hi
  obtain ⟨i0,h1,rfl⟩:=get j i hi
  obtain ⟨r,r1,r2,r3⟩:=rk j i0 h1
  obtain ⟨O,Q,g3,g4⟩:=U8 l (QB (l.map (·.op))) (QS ops (QB (l.map (·.op))) j i0)
  refine ⟨fun hk=>?_,fun hm=>?_,fun hm=>(Nb6 C hi' hm).imp fun _ h=>h.1⟩
  ·rw [g3] at hk
   rw [g4]
   have:¬(kind i0.op=.r\/kind i0.op=.w\/kind i0.op=.n\/kind i0.op=.c):=by
    have aw:kind i0.op=.p\/kind i0.op=.a\/kind i0.op=.s:=hk
    rcases aw with h | h | h<;>rw [h]<;>simp
   simp only [QS,Ng this]
  ·rw [g3] at hm
   obtain ⟨k,k1,k2⟩:=r2 hm
   have az:XO i0.op=false:=by
    cases h:XO i0.op with
    | false=>rfl
    | true=>have:=(Ny0 h).2;rw [show makes i0.op=true from hm] at this;cases this
   rw [Xj (i:=QS ops (QB (l.map (·.op))) j i0) az]
   exact ⟨k,by simp only [QS];rw [getD j r r1,k1]⟩
 ·have U:=hx
  have V:=hy
  obtain ⟨X,I,rfl⟩:=get j x hx
  obtain ⟨Y,J,rfl⟩:=get i y hy
  obtain ⟨am,an,E,ao⟩:=U8 l (QB (l.map (·.op))) (QS ops (QB (l.map (·.op))) j X)
  obtain ⟨ap,aq,F,ar⟩:=U8 l (QB (l.map (·.op))) (QS ops (QB (l.map (·.op))) i Y)
  have t:=Mx (ops:=ops) (L:=l) ord [] T A i B R j (by simpa using ac)
  unfold Noc at t
  rw [w1,I,J] at t
  simp only [Bool.false_or,Nx] at t
  have D:j≠i:=fun e=>by
   subst e
   rw [R] at G
   exact (Qp.1 G).2.2 j ac j Nm rfl
  have w2:waits ops ops.size j i=false:=by
   cases hw:waits ops ops.size j i with
   | false=>rfl
   | true=>
     exfalso
     obtain ⟨A1,A2,rfl⟩:=List.append_of_mem ac
     have:=Nbm v _ _ _ hw A1 (A2++i::B) (by rw [R];simp)
     rw [R] at G
     exact (Qp.1 G).2.2 i (Ov _ this) i Nm rfl
  have hm:∀{a b:Nat} {a0:AIns} {r:Nat},l[a]? = some a0->a≠b->waits ops ops.size b a=false->(QB (l.map (·.op))).getD a none=some r->r∈(List.range (QB (l.map (·.op))).length).filterMap fun c=>if c≠b/\!waits ops ops.size b c then (QB (l.map (·.op))).getD c none else none:=fun {a b a0 r} ha au hw hr=>by
   have av:a<(QB (l.map (·.op))).length:=by
    rw [a5];exact (List.getElem?_eq_some_iff.1 ha).1
   exact List.mem_filterMap.2 ⟨a,List.mem_range.2 av,by rw [Nh ⟨au,by simpa using hw⟩];exact hr⟩
  have apart:∀{a b a' b':AIns},a.dst=a'.dst->a.guard=a'.guard->a.op=a'.op->b.dst=b'.dst->b.guard=b'.guard->b.op=b'.op->Nbj a' b'=true->Nbj a b=true:=fun {a b a' b'} e1 e2 e3 e4 e5 e6 h=>by
   unfold Nbj AIns.looks at h⊢
   rw [e1,e2,e3,e4,e5,e6];exact h
  have al:∀{k:Kind},k=.r\/k=.w\/k=.n\/k=.c->k=.p\/k=.a\/k=.s->False:=fun h h'=>by
   rcases h with h | h | h | h<;>rw [h] at h'<;>simp at h'
  refine ⟨apart am an E ap aq F t.1,by rw [E,F];exact t.2,fun hk r hr=>?_,fun hk r hr=>?_,fun r h1 h2=>?_⟩
  ·cases hS:XO X.op with
   | true=>
     rcases (YL u U V D w2 w1 (by rw [E];exact hS) hr).2 with h | h
     ·exact h
     ·exact (al hk h).elim
   | false=>
     rw [Xj (i:=QS ops (QB (l.map (·.op))) j X) hS] at hr
     rw [F] at hk
     rw [ar]
     simp only [QS] at hr hk⊢
     rw [Nh hk]
     exact hm I D w1 hr
  ·cases hS:XO Y.op with
   | true=>
     rcases (YL u V U (Ne.symm D) w1 w2 (by rw [F];exact hS) hr).2 with h | h
     ·exact h
     ·exact (al hk h).elim
   | false=>
     rw [Xj (i:=QS ops (QB (l.map (·.op))) i Y) hS] at hr
     rw [E] at hk
     rw [ao]
     simp only [QS] at hr hk⊢
     rw [Nh hk]
     exact hm J (Ne.symm D) w2 hr
  ·cases hSx:XO X.op with
   | true=>exact (YL u U V D w2 w1 (by rw [E];exact hSx) h1).1 h2
   | false=>
     cases hSy:XO Y.op with
     | true=>exact (YL u V U (Ne.symm D) w1 w2 (by rw [F];exact hSy) h2).1 h1
     | false=>
       rw [Xj (i:=QS ops (QB (l.map (·.op))) j X) hSx] at h1
       rw [Xj (i:=QS ops (QB (l.map (·.op))) i Y) hSy] at h2
       simp only [QS] at h1 h2
       obtain ⟨r1,O,_⟩:=rk j X I
       obtain ⟨r2,Q,_⟩:=rk i Y J
       rw [getD j r1 O] at h1
       rw [getD i r2 Q] at h2
       subst h1 h2
       exact D (WO (l.map (·.op)) 0 j i r (by simpa [QB] using O) (by simpa [QB] using Q)).1
 ·have hi':=hi
  obtain ⟨i0,h1,rfl⟩:=get j i hi
  obtain ⟨O,Q,g3,g4⟩:=U8 l (QB (l.map (·.op))) (QS ops (QB (l.map (·.op))) j i0)
  cases hS:XO i0.op with
  | true=>
    obtain ⟨r',e,ay⟩:=Nb6 C hi' (by rw [g3];exact hS)
    rw [e] at hr;cases hr
    rw [<-hn];exact ay
  | false=>
    rw [Xj (i:=QS ops (QB (l.map (·.op))) j i0) hS] at hr
    exact lt j r hr
 ·obtain ⟨i0,h1,rfl⟩:=get j i hi
  rw [(U8 l (QB (l.map (·.op))) (QS ops (QB (l.map (·.op))) j i0)).2.2.2] at hr
  simp only [QS] at hr
  split at hr
  ·obtain ⟨c,a7,Z⟩:=List.mem_filterMap.1 hr
   split at Z
   ·exact lt c r Z
   ·cases Z
  ·simp at hr
 ·obtain ⟨X,I,rfl⟩:=get i x hx
  obtain ⟨Y,J,rfl⟩:=get j y hy
  have made:∀{d:AIns} {k:Nat},(Ndm l (QB (l.map (·.op))) (QS ops (QB (l.map (·.op))) k d)).made=some r->(QS ops (QB (l.map (·.op))) k d).dest=some r:=fun {d k} h=>by
   unfold AIns.made at h
   rw [(U8 l (QB (l.map (·.op))) (QS ops (QB (l.map (·.op))) k d)).2.2.1] at h
   cases hS:XO d.op with
   | true=>rw [show XO (QS ops (QB (l.map (·.op))) k d).op=true from hS] at h;cases h
   | false=>
     rw [show XO (QS ops (QB (l.map (·.op))) k d).op=false from hS] at h
     rw [Xj (i:=QS ops (QB (l.map (·.op))) k d) hS] at h
     exact h
  replace h1:=made h1
  replace h2:=made h2
  simp only [QS] at h1 h2
  obtain ⟨r1,O,_⟩:=rk i X I
  obtain ⟨r2,Q,_⟩:=rk j Y J
  rw [getD i r1 O] at h1
  rw [getD j r2 Q] at h2
  subst h1 h2
  exact (WO (l.map (·.op)) 0 i j r (by simpa [QB] using O) (by simpa [QB] using Q)).1
theorem Np1 {ops:Array Oper} {n:Nat} {M:List AIns} (h:Vq P pureF ops=some (.drawn n M)):∃ord L,Plan P pureF ops n ord L/\M=ord.map fun j=>L.getD j default:=by
 unfold Vq at h
 split at h
 ·rename_i c hc
  cases h
  exact Nb9 hc
 ·exact Nb9 h
theorem Na2 {i:AIns} {r:Nat} (h:i.made=some r):i.dest=some r:=by
 unfold AIns.made at h
 split at h
 ·cases h
 ·exact h
end
section
variable {P:Program} {pf pureF:FuncId->Bool} {C:Tt} {ds:List Deferred} {ro:Option Nat}
structure Todo (ops:Array Oper) (ord:List Nat) (listed:Array Bool) (τ:List Nat):Prop where
 mem:∀i,i∈τ↔i<ops.size/\listed.getD i true=false
 sub:τ.Sublist ord
 size:listed.size=ops.size
 closed:∀(i:Nat) o,ops[i]? = some o->listed.getD i false=true->∀e∈o.after.toList,Region.binds .any e=true->listed.getD e.on false=true
theorem getD_both {listed:Array Bool} {i n:Nat} (hs:listed.size=n) (hi:i<n):listed.getD i false=listed.getD i true:=by
 rw [N2,N2,Ny (by omega)]
 rfl
theorem Nhm (hC:CallOk (Prg.mk P pf) C) {ops:Array Oper} {n:Nat} {ord:List Nat} {L:List AIns} (pl:Plan P pureF ops n ord L) {N base:Nat} {Q:Exit->Act->World->Prop} (fr':Nat->Value) (H':NA) (W:Nat->Prop) (lim:Nat) (T:lim<=base) (K:PH) (H0:NA) (w0:World)
  (hQ:∀a w σ,State (Prg.mk P pf) ds W lim σ N fr' H' a w->Stp W w0 w->PH.le K σ->Grow lim H0 H'->(∀j,σ j≠K j->base<=j)->H0.length<=H'.length->Q .normal a w) :
  ∀(fuel:Nat) (listed:Array Bool) (τ:List Nat) (fr:Nat->Value) (H:NA) (a:Act) (w:World) (σ:PH),τ.length=fuel->Todo ops ord listed τ->State (Prg.mk P pf) ds W lim σ N fr H a w->Stp W w0 w->PH.le K σ->Grow lim H0 H->(∀j,σ j≠K j->base<=j)->H0.length<=H.length->
   Kept σ H base n (τ.filterMap fun i=>(L.getD i default).made)->Y2 C N lim (some base) (τ.map fun i=>L.getD i default) fr H=some (fr',H')->wpAnyIn (WF ro) 0 P .any ops Q fuel listed a w
 | 0,listed,τ,fr,H,a,w,σ,hf,ht,hst,h1,h2,h3,M,h5,hk,hx=>by
   have hτ:τ=[]:=List.length_eq_zero_iff.1 hf
   subst hτ
   simp [Y2] at hx
   obtain ⟨rfl,rfl⟩:=hx
   refine ⟨?_,hQ a w σ hst h1 h2 h3 M h5⟩
   rw [List.eq_nil_iff_forall_not_mem]
   intro i hi
   have:=Nax.1 hi
   have:=(ht.mem i).2 ⟨this.1,this.2.1⟩
   cases this
 | fuel+1,listed,τ,fr,H,a,w,σ,hf,ht,hst,h1,h2,h3,M,h5,hk,hx=>by
   refine ⟨fun hr=>?_,fun i hi=>?_⟩
   ·
    exfalso
    cases τ with
    | nil=>simp at hf
    | cons t τ=>
      have Y:=(ht.mem t).1 Nm
      have:t∈Region.ready .any ops listed:=Nax.2 ⟨Y.1,Y.2,fun o ho e he g=>by
       cases hc:listed.getD e.on true with
       | true=>rw [getD_both ht.size ((pl.mem _).1 (by
         obtain ⟨E,r2,c,h1,h2⟩:=List.cons_sublist_iff.1 ht.sub
         obtain ⟨u,v,rfl⟩:=List.append_of_mem h1
         have:=pl.back u t (v++r2) (by rw [c];simp) o ho e he g
         rw [c];simp [this]))];exact hc
       | false=>
         exfalso
         obtain ⟨E,r2,c,h1,h2⟩:=List.cons_sublist_iff.1 ht.sub
         obtain ⟨u,v,rfl⟩:=List.append_of_mem h1
         have hu:=pl.back u t (v++r2) (by rw [c];simp) o ho e he g
         have ab:e.on<ops.size:=(pl.mem _).1 (by rw [c];simp [hu])
         have U:=pl.nodup
         rw [c,Nq] at U
         have hd:=(Qp.1 U).2.2 e.on hu
         have hm:=(ht.mem e.on).2 ⟨ab,hc⟩
         rcases Nn.1 hm with h | h
         ·exact hd t (by simp) h
         ·exact hd e.on (by simp [h2.subset h]) rfl⟩
      rw [hr] at this
      cases this
   ·obtain ⟨E,r2,r3⟩:=Nax.1 hi
    have S:=(ht.mem i).2 ⟨E,r2⟩
    obtain ⟨A,B,rfl⟩:=List.append_of_mem S
    have ac:i<L.length:=by rw [pl.len];exact E
    have k:L[i]? = some (L.getD i default):=by rw [Na,Nf ac];rfl
    have D:∃Z B1,ord=Z++i::B1/\A.Sublist Z:=by
     obtain ⟨E,r2,h1,h2,h3⟩:=List.append_sublist_iff.1 ht.sub
     obtain ⟨s1,s2,M,h5,h6⟩:=List.cons_sublist_iff.1 h3
     obtain ⟨u,v,rfl⟩:=List.append_of_mem h5
     exact ⟨E++u,v++s2,by rw [h1,M];simp,h2.trans (List.sublist_append_left _ _)⟩
    obtain ⟨Z,B1,V,aa⟩:=D
    have F:(A++i::B).Nodup:=ht.sub.nodup pl.nodup
    have hA:∀b∈A,Planned (L.getD b default)/\Sep (L.getD b default) (L.getD i default):=fun b g=>by
     have d:=(ht.mem b).1 (Ov _ g)
     have l:b<L.length:=by rw [pl.len];exact d.1
     have f:L[b]? = some (L.getD b default):=by rw [Na,Nf l];rfl
     refine ⟨pl.planned b _ f,pl.sep Z i B1 V b (aa.subset g) _ _ f k ?_⟩
     cases hw:waits ops ops.size i b with
     | false=>rfl
     | true=>
       exfalso
       have key:∀m,waits ops m i b=true->listed.getD b false=true:=by
        intro m hm
        cases m with
        | zero=>simp [waits] at hm
        | succ m=>
          unfold waits at hm
          split at hm
          ·rename_i o ho
           obtain ⟨e,he,h2⟩:=List.any_eq_true.1 hm
           simp only [Nx,Bool.or_eq_true,beq_iff_eq] at h2
           have R:=r3 o ho e he h2.1
           rcases h2.2 with h3 | h3
           ·rw [<-h3];exact R
           ·exact ZZ ht.closed m e.on b R h3
          ·cases hm
       have:=key _ hw
       rw [getD_both ht.size d.1,d.2] at this
       cases this
    have O:=N0j (N:=N) (lim:=lim) (base:=base) hC.toCallOk0 (pl.planned i _ k) (B.map fun i=>L.getD i default) (A.map fun i=>L.getD i default) fr H _ hst.lim (fun r hr=>by have:=pl.dest i _ r k hr;have:=hk.len;omega) (fun x hx=>by
     obtain ⟨b,g,rfl⟩:=List.mem_map.1 hx
     refine ⟨hA b g,fun r hr=>?_⟩
     have d:=(ht.mem b).1 (Ov _ g)
     have l:b<L.length:=by rw [pl.len];exact d.1
     have f:L[b]? = some (L.getD b default):=by rw [Na,Nf l];rfl
     have:=pl.dest b _ r f hr
     have:=hk.len
     omega) (by simpa using hx)
    obtain ⟨fr1,H1,ah,ai⟩:=WV O
    have G:ops[i]? = some ops[i]:=Ny E
    obtain ⟨i0,ht0,e1,e2,e3,e4⟩:=pl.ins i _ _ G k
    refine N3q hC G ht0 ⟨e1,e2,e3⟩ e4 hst T hk (fun r hr=>⟨List.mem_filterMap.2 ⟨i,S,hr⟩,pl.dest i _ r k (Na2 hr)⟩) (fun r hr=>pl.mask i _ r k hr) ah fun σ' a' w' q1 q2 q3 q4 q5 q6 q7=>?_
    have s:i∉A:=fun h=>(Qp.1 F).2.2 i h i Nm rfl
    have y:i∉B:=(List.nodup_cons.1 (Qp.1 F).2.1).1
    have X:∀j,(listed.setIfInBounds i true).getD j true=if j=i then true else listed.getD j true:=fun j=>by
     rw [N2,N2]
     by_cases p:j=i
     ·subst p
      rw [Nh rfl,Array.getElem?_setIfInBounds_self_of_lt (by rw [ht.size];exact E)];rfl
     ·rw [Ng p,Pu (fun h=>p h.symm)]
    have I:∀j,(listed.setIfInBounds i true).getD j false=if j=i then true else listed.getD j false:=fun j=>by
     rw [N2,N2]
     by_cases p:j=i
     ·subst p
      rw [Nh rfl,Array.getElem?_setIfInBounds_self_of_lt (by rw [ht.size];exact E)];rfl
     ·rw [Ng p,Pu (fun h=>p h.symm)]
    have ag:Todo ops ord (listed.setIfInBounds i true) (A++B):=by
     refine ⟨fun j=>?_, ?_,by simpa using ht.size,fun j o ho hl e he g=>?_⟩
     ·have hm:=ht.mem j
      rw [X]
      constructor
      ·intro p
       have ae:j∈A++i::B:=by
        rcases N0.1 p with h | h
        ·exact Ov _ h
        ·exact P9 _ (Nj _ h)
       obtain ⟨g1,J⟩:=hm.1 ae
       have q:j≠i:=fun e=>by
        subst e
        rcases N0.1 p with h | h
        ·exact s h
        ·exact y h
       exact ⟨g1,by rw [Ng q];exact J⟩
      ·rintro ⟨g1,J⟩
       by_cases q:j=i
       ·rw [Nh q] at J;cases J
       ·rw [Ng q] at J
        have:=hm.2 ⟨g1,J⟩
        rcases N0.1 this with h | h
        ·exact Ov _ h
        ·rcases Nn.1 h with h | h
         ·exact absurd h q
         ·exact P9 _ h
     ·exact (List.Sublist.append_left (List.sublist_cons_self i B) A).trans ht.sub
     ·rw [I] at hl⊢
      by_cases p:j=i
      ·subst p
       have:=r3 o ho e he g
       split
       ·rfl
       ·exact this
      ·rw [Ng p] at hl
       have:=ht.closed j o ho hl e he g
       split
       ·rfl
       ·exact this
    refine Nhm hC pl fr' H' W lim T K H0 w0 hQ fuel _ (A++B) fr1 H1 a' w' σ' (by simp at hf⊢;omega) ag q1 (h1.trans q2) (PH.le_trans h2 q3) (h3.trans q4) (fun j p=>?_) (by omega) ⟨q5.len,q5.own,fun r hr=>q5.free r ?_,fun r hr=>?_⟩ (by simpa using ai)
    ·apply Ok
     intro hc
     have e1:σ j=K j:=Ok fun e=>hc (M j e)
     rcases q6 j (fun e=>p (e.trans e1)) with ⟨r,_,h⟩ | h
     ·omega
     ·have:=hk.len;omega
    ·obtain ⟨b,g,z⟩:=List.mem_filterMap.1 hr
     refine Oy.2 ⟨List.mem_filterMap.2 ⟨b, ?_,z⟩, ?_⟩
     ·rcases N0.1 g with h | h
      ·exact Ov _ h
      ·exact P9 _ (Nj _ h)
     ·simp only [ne_eq,decide_not,Bool.not_eq_true',decide_eq_false_iff_not]
      intro ad
      have d:b∈A++i::B:=by
       rcases N0.1 g with h | h
       ·exact Ov _ h
       ·exact P9 _ (Nj _ h)
      have l:b<L.length:=by rw [pl.len];exact ((ht.mem b).1 d).1
      have f:L[b]? = some (L.getD b default):=by rw [Na,Nf l];rfl
      have:=pl.inj b i _ _ r f k z ad
      subst this
      rcases N0.1 g with h | h
      ·exact s h
      ·exact y h
    ·obtain ⟨b,g,z⟩:=List.mem_filterMap.1 hr
     have d:b∈A++i::B:=by
      rcases N0.1 g with h | h
      ·exact Ov _ h
      ·exact P9 _ (Nj _ h)
     have l:b<L.length:=by rw [pl.len];exact ((ht.mem b).1 d).1
     have f:L[b]? = some (L.getD b default):=by rw [Na,Nf l];rfl
     exact pl.dest b _ r f (Na2 z)
end
end Go.AM


