/-
  Joined texts, 2 of 8. A part of the claim that the last text states.
-/
import Derived.ChangeKeysEq
import Derived.RangeFuncRecord
import Derived.OrdersIn
import Derived.Test.YtancgcogjokfcaaGreatDoorPB1
set_option linter.unusedVariables false
set_option linter.unusedSimpArgs false
set_option linter.defProp false
set_option linter.unusedSectionVars false
set_option maxRecDepth 100000
set_option maxHeartbeats 4000000
namespace Go.AM
open Go.MapKept
section
variable {P:Program} {Pg:Prg} {W:Nat->Prop} {lim:Nat} {σ:PQ} {H H':NB} {w:World} {dest:Option Nat} {ρ ρ':Operand->Value} {v:Value}
theorem NR.wrote (a:Inv Pg W lim σ H w) {run:Result Next} {nx:Next} {v':Value} {w':World} (hr:run=.ok nx w') (hn:Nd7 nx=some v') (d:VRel σ v v') (hi:Inv Pg W lim σ H' w') (c:Stp W w w') (hl:H'.length=H.length) :
  NR Pg W lim σ dest H w run v H':=⟨nx,w',σ,v',hr,hn,d,hi,c,PQ.le_refl σ,fun j b=>absurd rfl b,by omega,fun _=>hl⟩
theorem UV {l:List Operand} (h:∀x∈l,VRel σ (ρ x) (ρ' x)):OB σ (l.map ρ) (l.map ρ'):=OB.map l ρ ρ' h
theorem Nec {b:Array TypeId} {ty t:TypeId} {x:Value} (h0:b[0]? = some t) :
  (P.underlying t=some .string->∀s,x=.string s->(Builtin.len_ b ty #[x]).run P w=.ok (.int .i64 s.size) w)/\
  ((∃e,P.underlying t=some (.slice e))->∀a n c,x=.slice a n c->(Builtin.len_ b ty #[x]).run P w=.ok (.int .i64 n) w)/\
  (∀n e,P.underlying t=some (.array n e)->(Builtin.len_ b ty #[x]).run P w=.ok (.int .i64 n) w):=by
 refine ⟨fun d s f=>?_,fun ⟨e,d⟩ a n c f=>?_,fun n e d=>?_⟩
 ·subst f;simp [Builtin.len_,h0,run_underlying d,goInt]
 ·subst f;simp [Builtin.len_,h0,run_underlying d,goInt]
 ·cases x<;>simp [Builtin.len_,h0,run_underlying d,goInt]
theorem Sd (b:Builtin) (a:Array TypeId) (ty:TypeId) (cs:Array Bool) (args:Array Value) (s:Sem Value) {x:Value} {w':World} (hb:builtin b a ty cs args=(do pure (.value (<-s)))) (h:s.run P w=.ok x w') :
  (builtin b a ty cs args).run P w=.ok (.value x) w':=by
 rw [hb];simp [h]
theorem Nem (o:Oper) (c:Call) (b:Builtin) (ho:o.op=.call c) (hc:c.callee=.builtin b) :
  execOp ρ' o=builtin b c.argTypes o.type (c.args.map fun | .const _=>true | _=>false) (c.args.map ρ'):=by
 simp only [execOp,ho,resolve,hc]
 rfl
theorem VJ {a:Array Operand} {x:Operand} (h:a.toList=[x]):a.map ρ'=#[ρ' x]:=by
 apply Array.ext';simp [h]
theorem Nbh {a:Array Operand} {x y:Operand} (h:a.toList=[x,y]):a.map ρ'=#[ρ' x,ρ' y]:=by
 apply Array.ext';simp [h]
theorem VB {a:Array TypeId} {t:TypeId} {l:List TypeId} (h:a.toList=t::l):a[0]? = some t:=by
 rw [<-Array.getElem?_toList,h];rfl
theorem Njm (o:Inv Pg W lim σ H w) {dt e ty:TypeId} {C:Array TypeId} (t:C[0]? = some dt) (O:P.underlying dt=some (.slice e)) {esz:Nat} (z:PH P e=some esz) {d x:Operand} (G:VRel σ (ρ d) (ρ' d)) (q:VRel σ (ρ x) (ρ' x))
  (k:NH lim dest (.copy esz d x) ρ H=some (v,H')):∃w' v',(Builtin.copy_ C ty #[ρ' d,ρ' x]).run P w=.ok v' w'/\VRel σ v v'/\Inv Pg W lim σ H' w'/\Stp W w w'/\H'.length=H.length:=by
 simp only [NH] at k
 split at k
 case h_2=>cases k
 rename_i base p dc sl E j
 have read:∀cs,RL H esz (min sl p) (ρ x)=some cs->
   ∃cs',(Builtin.lenOf (ρ' x)).run P w=.ok sl w/\(Builtin.firstCells esz (min sl p) (ρ' x)).run P w=.ok cs'.toArray w/\OB σ cs cs'/\(∀y∈cs',y.oneCell'=true):=by
  intro cs f
  cases hxx:ρ x with
  | slice a n c=>
    rw [hxx] at f q j
    simp [lenOf] at j;subst j
    cases a with
    | none=>
      obtain ⟨rfl,rfl,h2⟩:=q.nilslice_left
      simp [RL] at f;subst f
      rw [h2]
      exact ⟨[],by simp [Builtin.lenOf],by simp [Builtin.firstCells],OB.nil,fun y A=>by simp at A⟩
    | some a=>
      simp only [RL] at f
      obtain ⟨M,L,J,hc⟩:=q.slice_left
      have r:∀c',ρ' x=.slice (some ⟨L.blk,L.base+a.off,none⟩) n c'->∃cs',(Builtin.lenOf (ρ' x)).run P w=.ok n w/\(Builtin.firstCells esz (min n p) (ρ' x)).run P w=.ok cs'.toArray w/\OB σ cs cs'/\(∀y∈cs',y.oneCell'=true):=by
       intro c' g
       obtain ⟨V,h1,h2,R,T⟩:=Zw (P:=P) o J f
       exact ⟨V,by rw [g];simp [Builtin.lenOf],by rw [g];simpa [Builtin.firstCells] using h1,h2,T⟩
      rcases hc with ⟨_,g⟩ | ⟨e',_,c',_,_,g⟩ | ⟨a',_,h0,g⟩
      ·exact r _ g
      ·exact r _ g
      ·subst h0
       have F:cs=[]:=by
        unfold AM.loadCells at f
        split at f
        ·split at f
         ·simp at f;exact f
         ·cases f
        ·cases f
       subst F
       have h0:(Go.loadCells a' 0).run P w=.ok #[] w:=by simpa using run_loadCells_list (P:=P) w a' [] (by simp)
       exact ⟨[],by rw [g];simp [Builtin.lenOf],by rw [g];simpa [Builtin.firstCells] using h0,OB.nil,fun y A=>by simp at A⟩
  | string s=>
    rw [hxx] at f q j
    simp [lenOf] at j;subst j
    simp only [RL] at f
    split at f
    case isFalse=>cases f
    rename_i U
    cases f
    rw [q.string_left]
    refine ⟨_,by simp [Builtin.lenOf], ?_,OB.refl_of fun y A=>?_,fun y A=>?_⟩
    ·simp only [Builtin.firstCells,Sem.run_pure]
     congr 1
     apply Array.ext'
     simp only [Array.toList_map,ByteArray.data_extract,Array.toList_extract]
     simp [List.extract]
    ·obtain ⟨b,_,rfl⟩:=List.mem_map.1 A;exact .atom rfl
    ·obtain ⟨b,_,rfl⟩:=List.mem_map.1 A;rfl
  | _=>rw [hxx] at j;simp [lenOf] at j
 cases f:RL H esz (min sl p) (ρ x) with
 | none=>rw [f] at k;cases k
 | some cs=>
 rw [f] at k
 cases base with
 | some a=>
   simp only at k
   obtain ⟨cs',I,B,Q,S⟩:=read cs f
   rw [E] at G
   obtain ⟨M,L,J,hc⟩:=G.slice_left
   by_cases m:min sl p=0
   ·rw [Nk m] at k
    cases k
    have D:cs=[]:=by
     rw [m] at f
     unfold RL at f
     split at f
     ·split at f
      ·cases f;rfl
      ·cases f
     ·simp only [Ov] at f
      unfold AM.loadCells at f
      split at f
      ·split at f
       ·simp at f;exact f
       ·cases f
      ·cases f
     ·split at f
      ·simp at f;exact f
      ·cases f
     ·cases f
    subst D
    have u:cs'=[]:=by have:=Q.1;simpa using this.symm
    subst u
    have l:∃b' c',ρ' d=.slice (some b') p c':=by
     rcases hc with ⟨_,h⟩ | ⟨_,_,_,_,_,h⟩ | ⟨_,_,h0,h⟩
     ·exact ⟨_,_,h⟩
     ·exact ⟨_,_,h⟩
     ·rw [h0];exact ⟨_,_,h⟩
    obtain ⟨b',c',l⟩:=l
    refine ⟨w,.int .i64 0, ?_,.atom rfl,o,Stp.refl _ _,rfl⟩
    rw [l]
    have i:Nat.min sl p=0:=m
    rw [m] at B
    simp [Builtin.copy_,t,run_underlying O,I,Sg z,i,B,storeCells,goInt]
   ·rw [Ni m] at k
    simp only [Nc,Prod.mk.injEq] at k
    obtain ⟨H2,N,rfl,rfl⟩:=k
    obtain ⟨w',X,Y,Z,q4⟩:=o.store (P:=P) J N Q S
    have l:∃c',ρ' d=.slice (some ⟨L.blk,L.base+a.off,none⟩) p c':=by
     rcases hc with ⟨_,h⟩ | ⟨_,_,_,_,_,h⟩ | ⟨_,_,h0,h⟩
     ·exact ⟨_,h⟩
     ·exact ⟨_,h⟩
     ·rw [h0] at m;simp at m
    obtain ⟨c',l⟩:=l
    refine ⟨w',.int .i64 (min sl p:Nat), ?_,.atom rfl,Y,Z,q4⟩
    rw [l]
    have i:Nat.min sl p=min sl p:=rfl
    simp [Builtin.copy_,t,run_underlying O,I,Sg z,i,B,X,goInt]
 | none=>
   simp only at k
   split at k
   case isFalse=>cases k
   rename_i K
   cases k
   obtain ⟨cs',I,B,Q,S⟩:=read cs f
   rw [E] at G
   obtain ⟨h1,h2,R⟩:=G.nilslice_left
   refine ⟨w,.int .i64 0, ?_,.atom rfl,o,Stp.refl _ _,rfl⟩
   rw [R]
   subst K
   have i:Nat.min sl 0=0:=Nat.min_zero sl
   rw [Nat.min_zero] at B
   simp [Builtin.copy_,t,run_underlying O,I,Sg z,i,B,goInt]
theorem Ngz (f:Inv Pg W lim σ H w) {dt e ty:TypeId} {p:Array TypeId} (q:p[0]? = some dt) (E:P.underlying dt=some (.slice e)) {z:List Value} (J:zeroOf P e=some z) {x:Operand} (s:VRel σ (ρ x) (ρ' x))
  (l:NH lim dest (.clear z x) ρ H=some (v,H')):∃w',(Builtin.clear_ p ty #[ρ' x]).run P w=.ok (.tuple #[]) w'/\v=.tuple #[]/\Inv Pg W lim σ H' w'/\Stp W w w'/\H'.length=H.length:=by
 simp only [NH] at l
 split at l
 case h_2=>cases l
 rename_i a n c C
 obtain ⟨i,b,hi,D,rfl,m⟩:=TW J
 rw [C] at s
 obtain ⟨I,L,G,hc⟩:=s.slice_left
 have u:(zeroValue e).run P w=.ok b w:=by simp [zeroValue,typeInfo,hi,D]
 by_cases h0:n=0
 ·rw [Nk h0] at l
  cases l
  subst h0
  have d:∃b' c',ρ' x=.slice (some b') 0 c':=by
   rcases hc with ⟨_,h⟩ | ⟨_,_,_,_,_,h⟩ | ⟨_,_,h0,h⟩
   ·exact ⟨_,_,h⟩
   ·exact ⟨_,_,h⟩
   ·exact ⟨_,_,h⟩
  obtain ⟨b',c',d⟩:=d
  refine ⟨w, ?_,rfl,f,Stp.refl _ _,rfl⟩
  rw [d]
  simp [Builtin.clear_,q,run_underlying E]
 ·rw [Ni h0] at l
  simp only [Nc,Prod.mk.injEq] at l
  obtain ⟨O,B,rfl,rfl⟩:=l
  have g:∀y∈(List.range (n*b.cells.toList.length)).map (fun j=>b.cells.toList.getD (j % b.cells.toList.length) undef),atom y=true/\y.oneCell'=true:=by
   intro y t
   obtain ⟨j,A,rfl⟩:=List.mem_map.1 t
   have o:=List.mem_range.1 A
   have hp:0<b.cells.toList.length:=by
    rcases Qp b.cells.toList.length with h | h
    ·rw [h] at o;omega
    ·exact h
   have r:=P3 j hp
   rw [Na,Nf r]
   exact m _ (Qd r)
  obtain ⟨w',F,K,M,N⟩:=f.store (P:=P) G B (OB.refl_of fun y t=>.atom (g y t).1) fun y t=>(g y t).2
  have d:∃c',ρ' x=.slice (some ⟨L.blk,L.base+a.off,none⟩) n c':=by
   rcases hc with ⟨_,h⟩ | ⟨_,_,_,_,_,h⟩ | ⟨_,_,h1,h⟩
   ·exact ⟨_,h⟩
   ·exact ⟨_,h⟩
   ·exact absurd h1 h0
  obtain ⟨c',d⟩:=d
  refine ⟨w', ?_,rfl,K,M,N⟩
  have hl:(Builtin.zeroCells b.cells n).toList=(List.range (n*b.cells.toList.length)).map (fun j=>b.cells.toList.getD (j % b.cells.toList.length) undef):=by
   unfold Builtin.zeroCells
   rw [Array.toList_map,Array.toList_range,Array.length_toList]
   refine P4 fun j A=>?_
   have o:=List.mem_range.1 A
   have hp:0<b.cells.size:=by
    rcases Qp b.cells.size with h | h
    ·rw [h] at o;omega
    ·exact h
   have r:=P3 j hp
   rw [getElem!_pos b.cells _ r,Na,Array.getElem?_toList,Nu r]
   rfl
  generalize (List.range (n*b.cells.toList.length)).map (fun j=>b.cells.toList.getD (j % b.cells.toList.length) undef)=L0 at hl F
  rw [d]
  obtain ⟨k,rfl⟩:∃k,n=k+1:=⟨n-1,by omega⟩
  simp [Builtin.clear_,q,run_underlying E,u,hl,F]
end
section
variable {P:Program} {pureF:FuncId->Bool} {Pg:Prg} {W:Nat->Prop} {lim:Nat} {σ:PQ} {H H':NB} {w:World} {dest:Option Nat} {ρ ρ':Operand->Value} {v:Value}
theorem NM {α β:Type} {x:Option α} {f:α->Option β} {b:β} (h:(x >>= f)=some b):∃a,x=some a/\f a=some b:=by
 cases x with
 | none=>cases h
 | some a=>exact ⟨a,rfl,h⟩
theorem Zo (w:World) (st j ty e:TypeId) (i:TypeInfo) (z:Value) {kd:IntKind} (o:P.underlying st=some (.slice e)) (p:P.underlying j=some (.int kd)) (hi:P.info? e=some i) (q:i.zero=some z)
  (h:z.cells.size=i.size) (g:i.size≠0) (k:IntKind) (l:Int) (h0:0<l) (a:l*i.bytes<=140737488355328) (m:l<2 ^ 62) :
  (Builtin.append_ #[st,j] ty #[.slice none 0 0,.int k l]).run P w =
   .ok (.slice (some ⟨w.heap.size,0,none⟩) l.toNat (grownCap w l.toNat 0 e))
    (w.drew.alloc (.cells (madeCells z.cells (l.toNat*i.size)++Builtin.zeroCells z.cells (grownCap w l.toNat 0 e-l.toNat)) e)):=by
 have t:IntKind.i64.wrap l=l:=by rw [IntKind.wrap_i64];omega
 obtain ⟨n,rfl⟩:∃n:Nat,l=n:=⟨l.toNat,by omega⟩
 have r:¬(n:Int)<0:=by omega
 have d:n*i.bytes<=140737488355328:=by rw [<-Int.natCast_mul] at a;omega
 have s:¬(281474976710656<(n:Int)*i.bytes):=by omega
 have hn:¬(n=0):=by omega
 have c:¬(9223372036854775807<(n:Int)):=by omega
 have b:¬(281474976710656<Builtin.nextslicecap n 0*i.bytes):=by
  have:=growslice_fits (need:=n) (old:=0) (bytes:=i.bytes) (by omega) d;omega
 have f:¬(n*i.size=0):=by rw [Nat.mul_eq_zero];omega
 simp [Builtin.append_,run_underlying o,run_underlying p,asInt,asIntOf,sizeOf,typeInfo,zeroValue,hi,q,t,r,s,hn,c,b,f,g,Question.forced,Builtin.firstCells,newRow,grownCap,madeCells,h,Builtin.zeroCells]
theorem Nb8 (f:Inv Pg W lim σ H w) (V:∀d,dest=some d->d<H.length/\σ d=none) {st R ty e:TypeId} {kd:IntKind} (Y:P.underlying st=some (.slice e)) (N:P.underlying R=some (.int kd))
  {esz bytes:Nat} (F:PH P e=some esz) (E:UH P e=some bytes) {z:List Value} (Z:zeroOf P e=some z) (O:z.length=esz) (D:esz≠0) {os A:Operand}
  (S:VRel σ (ρ os) (ρ' os)) (u:VRel σ (ρ A) (ρ' A)) (p:NH lim dest (.growNil esz bytes z os A) ρ H=some (v,H')) {run:Result Next}
  (t:run=((Builtin.append_ #[st,R] ty #[ρ' os,ρ' A]).run P w).andThen fun v w'=>.ok (.value v) w'):NR Pg W lim σ dest H w run v H':=by
 obtain ⟨i,a,hi,Q,rfl,B⟩:=TW Z
 obtain ⟨i2,r,I⟩:=Xn F
 rw [hi] at r;cases r
 obtain ⟨i3,s,G⟩:=Yr E
 rw [hi] at s;cases s
 subst I G
 have x:a.cells.size=i.size:=by simpa using O
 simp only [NH] at p
 split at p
 case h_2=>cases p
 rename_i kl l M hl
 split at p
 case isFalse=>cases p
 rename_i C
 obtain ⟨T,b2,U⟩:=C
 cases hp:place dest (.cells false ((List.range (l.toNat*i.size)).map fun j=>a.cells.toList.getD (j % a.cells.toList.length) undef)) H with
 | mk k K=>
 rw [hp] at p
 cases p
 rw [M] at S;rw [hl] at u
 obtain ⟨_,_,L⟩:=S.nilslice_left
 have X:=Zo (P:=P) w st R ty e i a Y N hi Q x D kl l T (by omega) U
 have q:=grownCap_ge w l.toNat 0 e
 have b:∀j,VRel σ (a.cells.toList.getD (j % a.cells.toList.length) undef) (a.cells[j % a.cells.size]!)/\(a.cells[j % a.cells.size]!).oneCell'=true:=fun j=>by
  have g:j % a.cells.size<a.cells.size:=P3 _ (by omega)
  have e1:a.cells.toList.getD (j % a.cells.toList.length) undef=a.cells[j % a.cells.size]:=by
   rw [Na,Array.length_toList,Array.getElem?_toList,Nu g];rfl
  have e2:a.cells[j % a.cells.size]! = a.cells[j % a.cells.size]:=by simp [g]
  rw [e1,e2]
  have:=B _ (Array.mem_toList_iff.2 (Array.getElem_mem g))
  exact ⟨.atom this.1,this.2⟩
 have o:(madeCells a.cells (l.toNat*i.size)++Builtin.zeroCells a.cells (grownCap w l.toNat 0 e-l.toNat)).size=grownCap w l.toNat 0 e*i.size:=by
  rw [Array.size_append,size_zeroCells,size_madeCells,x,<-Pt];congr 1;omega
 refine NR.made f V hp (cs:=madeCells a.cells (l.toNat*i.size)++Builtin.zeroCells a.cells (grownCap w l.toNat 0 e-l.toNat)) (el:=e) (fun j y g=>?_) ?_ f.drew (Stp.drew) (v':=.slice (some ⟨w.heap.size,0,none⟩) l.toNat (grownCap w l.toNat 0 e)) ?_ ?_
 ·rw [O0] at g
  simp only [Nc] at g
  obtain ⟨j',h,rfl⟩:=g
  have m:j<l.toNat*i.size:=by simpa using (List.getElem?_eq_some_iff.1 h).1
  rw [List.getElem?_range m] at h
  cases h
  refine ⟨a.cells[j % a.cells.size]!, ?_,(b j).1,(b j).2⟩
  rw [Array.getElem?_append_left (by rw [size_madeCells];exact m)]
  simp [madeCells,m]
 ·rw [o];simp only [Nz,List.length_range];exact Om _ q
 ·rw [t,L,u.int_left,X];rfl
 ·have J:0+grownCap w l.toNat 0 e*i.size<=(madeCells a.cells (l.toNat*i.size)++Builtin.zeroCells a.cells (grownCap w l.toNat 0 e-l.toNat)).size:=by omega
  have:=VRel.lslice (σ:=σ.put k ⟨w.drew.heap.size,0,(madeCells a.cells (l.toNat*i.size)++Builtin.zeroCells a.cells (grownCap w l.toNat 0 e-l.toNat)).size⟩) (i:=k) (k:=0) (n:=l.toNat) (e:=i.size) (c:=grownCap w l.toNat 0 e) PQ.put_same q J
  simpa using this
theorem Ncd {M:Bool} {o:Oper} {c:Call} (K:o.op=.call c) {b:Builtin} (hb:c.callee=.builtin b) {ao:AOp} (f:Zh P pureF M o=some ao) (g:Inv Pg W lim σ H w)
  (hρ:∀x,QB x=true->VRel σ (ρ x) (ρ' x)) (X:∀d,dest=some d->d<H.length/\σ d=none) (i:NH lim dest ao ρ H=some (v,H')):NR Pg W lim σ dest H w ((execOp ρ' o).run P w) v H':=by
 have p:=Nem (ρ':=ρ') o c b K hb
 unfold Zh at f
 split at f
 ·cases f
 rename_i Q
 simp only [Bool.not_eq_true,Bool.not_eq_false'] at Q
 have l:∀x∈c.args.toList,VRel σ (ρ x) (ρ' x):=fun x i=>hρ x (Nf0 (by simpa using Q) (by
  rw [K];simp only [Op.operands,Call.operands,hb];simpa using i))
 rw [K] at f
 simp only [hb] at f
 cases b<;>simp only at f<;>try (cases f;done)
 case append=>
  split at f
  case h_2=>cases f
  rename_i s x st xt e1 e2
  have N:c.argTypes=#[st,xt]:=by apply Array.ext';simpa using e2
  have I:=l s (by simp [e1])
  have j:=l x (by simp [e1])
  have G:∀(ty:TypeId),(execOp ρ' o).run P w=((Builtin.append_ #[st,xt] o.type #[ρ' s,ρ' x]).run P w).andThen fun v w'=>.ok (.value v) w':=by
   intro _
   rw [p,Nbh e1,N]
   simp [builtin]
  split at f
  ·rename_i e e' D E
   obtain ⟨n,hn,f⟩:=NM f
   obtain ⟨bb,B,f⟩:=NM f
   obtain ⟨z,F,f⟩:=NM f
   split at f
   case isFalse=>cases f
   rename_i A
   cases f
   simp only [NH] at i
   exact Zc g X (ty:=o.type) D (str:=false) (by simpa using ⟨_,E⟩) hn B F A I j i (G 0)
  ·rename_i e D E
   obtain ⟨n,hn,f⟩:=NM f
   obtain ⟨bb,B,f⟩:=NM f
   obtain ⟨z,F,f⟩:=NM f
   split at f
   case isFalse=>cases f
   rename_i A
   cases f
   simp only [NH] at i
   exact Zc g X (ty:=o.type) D (str:=true) (by simpa using ⟨E,A.2⟩) hn B F A.1 I j i (G 0)
  ·rename_i e kd D E
   obtain ⟨n,hn,f⟩:=NM f
   obtain ⟨bb,B,f⟩:=NM f
   obtain ⟨z,F,f⟩:=NM f
   split at f
   case isFalse=>cases f
   rename_i A
   cases f
   exact Nb8 g X D E hn B F A.1 A.2 I j i (G 0)
  ·cases f
 case copy=>
  split at f
  case h_2=>cases f
  rename_i d x dt rest e1 e2
  split at f
  case h_2=>cases f
  rename_i e q
  simp only [Nc] at f
  obtain ⟨n,hn,rfl⟩:=f
  obtain ⟨w',v',R,S,T,U,q5⟩:=Njm (P:=P) (ty:=o.type) g (VB e2) q hn (l d (by simp [e1])) (l x (by simp [e1])) i
  refine NR.wrote g (nx:=.value v') ?_ rfl S T U q5
  rw [p,Nbh e1]
  exact Sd _ _ _ _ _ _ rfl R
 case clear=>
  split at f
  case h_2=>cases f
  rename_i x t rest e1 e2
  split at f
  case h_2=>cases f
  rename_i e q
  simp only [Nc] at f
  obtain ⟨z,F,rfl⟩:=f
  obtain ⟨w',R,rfl,S,T,U⟩:=Ngz (P:=P) (ty:=o.type) g (VB e2) q F (l x (by simp [e1])) i
  refine NR.wrote g (nx:=.value (.tuple #[])) ?_ rfl (.atom rfl) S T U
  rw [p,VJ e1]
  exact Sd _ _ _ _ _ _ rfl R
 case delete=>
  split at f
  case h_2=>cases f
  rename_i m k t rest e1 e2
  split at f
  case h_2=>cases f
  rename_i kt e q
  simp only [Nc] at f
  obtain ⟨kk,hk,rfl⟩:=f
  obtain ⟨w',R,S,T,U,rfl⟩:=Njl (P:=P) (ty:=o.type) g q hk (l m (by simp [e1])) (l k (by simp [e1])) i (VB e2)
  refine NR.wrote g (nx:=.value (.tuple #[])) ?_ rfl (.atom rfl) S T U
  rw [p,Nbh e1]
  exact Sd _ _ _ _ _ _ rfl R
 case cap=>
  split at f
  case h_2=>cases f
  rename_i x t e1 e2
  have j:=l x (by simp [e1])
  have h0:c.argTypes[0]? = some t:=VB e2
  split at f
  ·rename_i e q
   cases f
   simp only [NH] at i
   split at i
   case h_2=>cases i
   rename_i a n cc I
   split at i
   case isFalse=>cases i
   rename_i C
   cases i
   rw [I] at j
   have:∃a' n',ρ' x=.slice a' n' cc:=by
    cases a with
    | none=>obtain ⟨rfl,rfl,h⟩:=j.nilslice_left;exact ⟨_,_,h⟩
    | some a=>
      obtain ⟨_,L,_,⟨_,h⟩ | ⟨e',Y,_,_,_,h⟩ | ⟨_,V,rfl,h⟩⟩:=j.slice_left
      ·exact ⟨_,_,h⟩
      ·exfalso;rw [Y] at C;unfold loose at C;omega
      ·rcases V with rfl | ⟨e',rfl⟩
       ·exact ⟨_,_,h⟩
       ·exfalso;unfold loose at C;omega
   obtain ⟨a',n',h⟩:=this
   refine NR.plain g (v':=.int .i64 cc) ?_ (.atom rfl)
   rw [p,VJ e1]
   refine Sd _ _ _ _ _ _ rfl ?_
   rw [h]
   simp [Builtin.cap_,h0,run_underlying q,goInt]
  ·cases f
 case len=>
  split at f
  case h_2=>cases f
  rename_i x t e1 e2
  have j:=l x (by simp [e1])
  have h0:c.argTypes[0]? = some t:=VB e2
  split at f
  ·rename_i q
   cases f
   simp only [NH] at i
   split at i
   case h_2=>cases i
   rename_i s I
   cases i
   rw [I] at j
   refine NR.plain g (v':=.int .i64 s.size) ?_ (.atom rfl)
   rw [p,VJ e1]
   exact Sd _ _ _ _ _ _ rfl ((Nec h0).1 q s j.string_left)
  ·rename_i e q
   cases f
   simp only [NH] at i
   split at i
   case h_2=>cases i
   rename_i a n cc I
   cases i
   rw [I] at j
   have:∃a' c',ρ' x=.slice a' n c':=by
    cases a with
    | none=>obtain ⟨rfl,rfl,h⟩:=j.nilslice_left;exact ⟨_,_,h⟩
    | some a=>
      obtain ⟨_,L,_,⟨_,h⟩ | ⟨_,_,_,_,_,h⟩ | ⟨_,_,rfl,h⟩⟩:=j.slice_left
      ·exact ⟨_,_,h⟩
      ·exact ⟨_,_,h⟩
      ·exact ⟨_,_,h⟩
   obtain ⟨a',c',h⟩:=this
   refine NR.plain g (v':=.int .i64 n) ?_ (.atom rfl)
   rw [p,VJ e1]
   exact Sd _ _ _ _ _ _ rfl ((Nec h0).2.1 ⟨e,q⟩ _ _ _ h)
  ·rename_i k e q
   cases f
   simp only [NH,Nc,Prod.mk.injEq] at i
   obtain ⟨es,Z,rfl,rfl⟩:=i
   refine NR.plain g (v':=.int .i64 es.length) ?_ (.atom rfl)
   rw [p,VJ e1]
   refine Sd _ _ _ _ _ _ rfl ?_
   rcases g.entries j Z with ⟨J,rfl⟩ | ⟨r,L,ents,clock,ab,B,hL,J,hh,O,aa⟩
   ·rw [J];simp [Builtin.len_,h0,run_underlying q,goInt]
   ·rw [J];simp [Builtin.len_,h0,run_underlying q,MapKept.run_getObj_map hh,goInt,O]
  ·rename_i n e q
   cases f
   simp only [NH] at i
   cases i
   refine NR.plain g (v':=.int .i64 n) ?_ (.atom rfl)
   rw [p,VJ e1]
   exact Sd _ _ _ _ _ _ rfl ((Nec h0).2.2 n e q)
  ·cases f
 case max=>
  cases f
  simp only [NH] at i
  split at i
  ·cases i
  rename_i x r u
  simp only [Nc,Prod.mk.injEq] at i
  obtain ⟨z,F,rfl,rfl⟩:=i
  obtain ⟨z',h1,h2⟩:=UM (P:=P) (w:=w) (σ:=σ) true (r.map ρ) (r.map ρ') (ρ x) (ρ' x) z (l x (by simp [u])) (UV fun y hy=>l y (by simp [u,hy])) F
  refine NR.plain g (v':=z') ?_ h2
  rw [p]
  refine Sd _ _ _ _ _ _ rfl ?_
  have:(c.args.map ρ').toList=ρ' x::r.map ρ':=by simp [u]
  unfold Builtin.max_
  rw [this]
  exact h1
 case min=>
  cases f
  simp only [NH] at i
  split at i
  ·cases i
  rename_i x r u
  simp only [Nc,Prod.mk.injEq] at i
  obtain ⟨z,F,rfl,rfl⟩:=i
  obtain ⟨z',h1,h2⟩:=UM (P:=P) (w:=w) (σ:=σ) false (r.map ρ) (r.map ρ') (ρ x) (ρ' x) z (l x (by simp [u])) (UV fun y hy=>l y (by simp [u,hy])) F
  refine NR.plain g (v':=z') ?_ h2
  rw [p]
  refine Sd _ _ _ _ _ _ rfl ?_
  have:(c.args.map ρ').toList=ρ' x::r.map ρ':=by simp [u]
  unfold Builtin.min_
  rw [this]
  exact h1
theorem Nns {ah:Bool} {o:Oper} {ao:AOp} (g:Zh P pureF ah o=some ao) (A:Inv Pg W lim σ H w) (hρ:∀x,QB x=true->VRel σ (ρ x) (ρ' x)) (hd:∀d,dest=some d->d<H.length/\σ d=none)
  (u:NH lim dest ao ρ H=some (v,H')):NR Pg W lim σ dest H w ((execOp ρ' o).run P w) v H':=by
 obtain ⟨dst,op,type,pos,after,guard⟩:=o
 by_cases Z:∃c,op=.call c
 ·obtain ⟨c,rfl⟩:=Z
  by_cases hb:∃b,c.callee=.builtin b
  ·obtain ⟨b,hb⟩:=hb
   exact Ncd (o:=⟨dst,.call c,type,pos,after,guard⟩) rfl hb g A hρ hd u
  ·unfold Zh at g
   split at g
   ·cases g
   simp only at g
   cases hc:c.callee with
   | builtin b=>exact absurd ⟨b,hc⟩ hb
   | value f=>rw [hc] at g;simp at g;subst g;simp [NH] at u
   | invoke r m=>rw [hc] at g;simp at g
 unfold Zh at g
 split at g
 ·cases g
 rename_i ax
 simp only [Bool.not_eq_true,Bool.not_eq_false'] at ax
 have C:∀x∈op.operands,VRel σ (ρ x) (ρ' x):=fun x u=>hρ x (Nf0 (o:=⟨dst,op,type,pos,after,guard⟩) (by simpa using ax) u)
 cases op<;>(try simp only at g)<;>try (cases g;done)
 case call c=>exact absurd ⟨c,rfl⟩ Z
 case move x=>
  cases g;simp only [NH] at u;cases u
  exact NR.plain A (v':=ρ' x) rfl (C x (by simp [Op.operands]))
 case assign x=>
  cases g;simp only [NH] at u;cases u
  exact NR.plain A (v':=ρ' x) rfl (C x (by simp [Op.operands]))
 case pick c a b=>
  cases g;simp only [NH] at u
  have hc:=C c (by simp [Op.operands])
  split at u
  ·rename_i h;cases u;rw [h] at hc
   exact NR.plain A (v':=ρ' a) (by simp [execOp,hc.bool_left,asBool]) (C a (by simp [Op.operands]))
  ·rename_i h;cases u;rw [h] at hc
   exact NR.plain A (v':=ρ' b) (by simp [execOp,hc.bool_left,asBool]) (C b (by simp [Op.operands]))
  ·cases u
 case alloc e=>
  simp only [Nc] at g
  obtain ⟨z,Y,rfl⟩:=g
  exact Ng6 A hd Y u _ rfl
 case box e x=>
  cases g
  exact Nnj A hd (C x (by simp [Op.operands])) u _ rfl
 case build t parts=>
  obtain ⟨z,Y,g⟩:=NM g
  split at g
  ·rename_i fs E
   obtain ⟨ps,a6,g⟩:=NM g
   split at g
   case isFalse=>cases g
   rename_i al
   cases g
   exact Yt A E Y a6 al hρ u _ rfl
  ·rename_i n e E
   obtain ⟨s,G,g⟩:=NM g
   cases g
   exact Zb A E Y G (fun x u=>C x.2 (by simp only [Op.operands];simp;exact ⟨x.1,by simpa using u⟩)) u _ rfl
  ·cases g
 case buildSlice t len parts=>
  split at g
  ·rename_i e E
   obtain ⟨s,G,g⟩:=NM g
   obtain ⟨z,Y,g⟩:=NM g
   split at g
   ·cases g
   rename_i F
   cases g
   exact Z7 A hd E Y G (Po fun h=>F (.inl h)) (fun h=>F (.inr (.inl h))) (Nat.le_of_not_lt fun h=>F (.inr (.inr h)))
    (fun x u=>C x.2 (by simp only [Op.operands];simp;exact ⟨x.1,by simpa using u⟩)) u _ rfl
  ·cases g
 case load t a=>
  obtain ⟨ag,N,g⟩:=NM g
  have ha:=C a (by simp [Op.operands])
  cases ag with
  | true=>
    simp only [if_true,Nc] at g
    obtain ⟨n,hn,rfl⟩:=g
    simp only [NH] at u
    split at u
    case h_2=>cases u
    rename_i p hp
    simp only [Nc,Prod.mk.injEq] at u
    obtain ⟨c,hc,rfl,rfl⟩:=u
    rw [hp] at ha
    obtain ⟨L,Q,I,h2⟩:=ha.ptr_left
    obtain ⟨v',X,h4⟩:=ZO (P:=P) A N hn Q hc
    refine NR.plain A (v':=v') ?_ h4
    simp only [execOp]
    refine OI P w _ ?_
    simp [Instr.loadAt,Instr.sureAddr,h2,X]
  | false=>
    simp only [No,if_false,Option.some.injEq] at g
    subst g
    simp only [NH] at u
    split at u
    case h_2=>cases u
    rename_i p hp
    simp only [Nc,Prod.mk.injEq] at u
    obtain ⟨c,hc,rfl,rfl⟩:=u
    rw [hp] at ha
    obtain ⟨L,Q,I,h2⟩:=ha.ptr_left
    obtain ⟨v',X,h4⟩:=ZP (P:=P) A N Q hc
    refine NR.plain A (v':=v') ?_ h4
    simp only [execOp]
    refine OI P w _ ?_
    simp [Instr.loadAt,Instr.sureAddr,h2,X]
 case store t a x=>
  simp only [Nc] at g
  obtain ⟨n,hn,rfl⟩:=g
  have ha:=C a (by simp [Op.operands])
  have B:=C x (by simp [Op.operands])
  simp only [NH] at u
  split at u
  case h_2=>cases u
  rename_i p hp
  split at u
  case isFalse=>cases u
  rename_i F
  simp only [Nc,Prod.mk.injEq] at u
  obtain ⟨H2,a9,rfl,rfl⟩:=u
  rw [hp] at ha
  obtain ⟨L,Q,I,h2⟩:=ha.ptr_left
  obtain ⟨w',U,V,q3,q4⟩:=A.store (P:=P) Q a9 B.cells (B.cells_one F.2)
  refine NR.wrote A (nx:=.skip) ?_ rfl (.atom rfl) V q3 q4
  simp only [execOp]
  refine Y7 P w _ ?_
  have ba:(ρ' x).cells.size=n:=by have:=B.cells.1;simp at this;rw [<-this];exact F.1
  simp [Instr.storeAt,Instr.sureAddr,h2,storeVar,Sg hn,ba,U]
 case nilCheck x=>
  cases g
  have B:=C x (by simp [Op.operands])
  simp only [NH] at u
  split at u
  ·rename_i p hp
   cases u
   rw [hp] at B
   obtain ⟨L,Q,I,h2⟩:=B.ptr_left
   exact NR.plain A (v':=ρ' x) (by simp [execOp,h2]) B
  ·rename_i f a b hp
   cases u
   rw [hp] at B
   obtain ⟨c,d,h2,_,_⟩:=B.func_left
   exact NR.plain A (v':=ρ' x) (by simp [execOp,h2]) B
  ·cases u
 case binOp op t x y yt=>
  have B:=C x (by simp [Op.operands])
  have T:=C y (by simp [Op.operands])
  have bin:∀{r},NH lim dest (.bin op x y) ρ H=some (v,r)->NR Pg W lim σ dest H w ((execOp ρ' ⟨dst,.binOp op t x y yt,type,pos,after,guard⟩).run P w) v r:=by
   intro r u
   simp only [NH,Nc,Prod.mk.injEq] at u
   obtain ⟨c,hc,rfl,rfl⟩:=u
   have R:ρ' x=ρ x/\ρ' y=ρ y/\VRel σ c c:=by
    have D:=hc
    unfold NG at D
    split at D
    ·rename_i k a k' b e1 e2
     rw [e1] at B;rw [e2] at T
     refine ⟨by rw [B.int_left,e1],by rw [T.int_left,e2], ?_⟩
     have:atom c=true:=by
      split at D
      ·split at D<;>cases D<;>rfl
      ·split at D<;>cases D<;>rfl
      ·split at D
       ·cases op<;>simp at D<;>first | (subst D;rfl) | (obtain ⟨_,rfl⟩:=D;rfl)
       ·cases D
     exact .atom this
    ·rename_i a b e1 e2
     rw [e1] at B;rw [e2] at T
     refine ⟨by rw [B.string_left,e1],by rw [T.string_left,e2], ?_⟩
     have:atom c=true:=by
      cases op<;>simp at D<;>first | (subst D;rfl) | (obtain ⟨_,rfl⟩:=D;rfl)
     exact .atom this
    ·cases D
   refine NR.plain A (v':=c) ?_ R.2.2
   simp only [execOp]
   refine OI P w _ ?_
   rw [R.1,R.2.1]
   exact Njv op t x y hc
  have ai:∀{neg:Bool} {k:EqKind} {r},op=(if neg then .neq else .eql)->Tw P t=some k->NH lim dest (.eqv neg k x y) ρ H=some (v,r)->
    NR Pg W lim σ dest H w ((execOp ρ' ⟨dst,.binOp op t x y yt,type,pos,after,guard⟩).run P w) v r:=by
   intro neg k r ab S u
   simp only [NH] at u
   split at u
   case h_2=>cases u
   rename_i b hb
   cases u
   refine NR.plain A (v':=.bool (if neg then !b else b)) ?_ (.atom rfl)
   simp only [execOp,ab]
   exact OI P w _ (Nnu w neg S x y B T hb)
  have aj:∀{neg:Bool} {m r},op=(if neg then .neq else .eql)->P.underlying t=some (.interface m)->y=.const .nilIface->NH lim dest (.eqv neg .iface x y) ρ H=some (v,r)->
    NR Pg W lim σ dest H w ((execOp ρ' ⟨dst,.binOp op t x y yt,type,pos,after,guard⟩).run P w) v r:=by
   intro neg m r ab E hy u
   simp only [NH] at u
   split at u
   case h_2=>cases u
   rename_i b hb
   cases u
   refine NR.plain A (v':=.bool (if neg then !b else b)) ?_ (.atom rfl)
   simp only [execOp,ab]
   subst hy
   exact OI P w _ (Nnv w neg E x .nilIface B T hb)
  split at g
  ·cases g;exact bin u
  ·cases g;exact bin u
  ·rename_i m E
   split at g
   ·split at g
    ·cases g;exact aj (neg:=false) rfl E rfl u
    ·cases g;exact aj (neg:=true) rfl E rfl u
    ·cases g
   ·cases g
  ·split at g
   ·simp only [Nc] at g
    obtain ⟨k,S,rfl⟩:=g
    exact ai (neg:=false) rfl S u
   ·simp only [Nc] at g
    obtain ⟨k,S,rfl⟩:=g
    exact ai (neg:=true) rfl S u
   ·cases g
 case unOp op t x=>
  cases g
  have B:=C x (by simp [Op.operands])
  simp only [NH,Nc,Prod.mk.injEq] at u
  obtain ⟨c,hc,rfl,rfl⟩:=u
  have R:ρ' x=ρ x/\VRel σ c c:=by
   have D:=hc
   unfold NQ at D
   split at D
   ·rename_i b e1;rw [e1] at B;cases D;exact ⟨by rw [B.bool_left,e1],.atom rfl⟩
   ·rename_i k n e1;rw [e1] at B;cases D;exact ⟨by rw [B.int_left,e1],.atom rfl⟩
   ·rename_i k n e1;rw [e1] at B;cases D;exact ⟨by rw [B.int_left,e1],.atom rfl⟩
   ·cases D
  refine NR.plain A (v':=c) ?_ R.2
  simp only [execOp]
  refine OI P w _ ?_
  rw [R.1]
  exact Nnq op hc
 case convert s d x=>
  have B:=C x (by simp [Op.operands])
  split at g
  ·rename_i k' k G O
   cases g
   simp only [NH] at u
   split at u
   case h_2=>cases u
   rename_i q n hq
   cases u
   rw [hq] at B
   refine NR.plain A (v':=.int k (k.wrap n)) ?_ (.atom rfl)
   simp only [execOp]
   refine OI P w _ ?_
   rw [B.int_left]
   simp [convert,run_underlying G,run_underlying O,Conv.intToInt]
  ·rename_i G O
   cases g
   simp only [NH] at u
   split at u
   case h_2=>cases u
   rename_i q hq
   cases u
   rw [hq] at B
   refine NR.plain A (v':=.string q) ?_ (.atom rfl)
   simp only [execOp]
   refine OI P w _ ?_
   rw [B.string_left]
   simp [convert,run_underlying G,run_underlying O]
  rotate_left
  ·rename_i e e' G O
   split at g
   case h_2=>cases g
   rename_i he
   split at g
   case isFalse=>cases g
   rename_i a8
   cases g
   subst a8
   have a3:e'=e:=by rw [G] at O;cases O;rfl
   subst a3
   exact Nb1 (o:=⟨dst,.convert s s x,type,pos,after,guard⟩) A G he B u
  rotate_right
  ·rename_i e G O
   split at g
   ·rename_i he
    cases g
    obtain ⟨v',U,V,rfl⟩:=Nnl (P:=P) A G he O B u
    refine NR.plain A (v':=v') ?_ V
    simp only [execOp]
    exact OI P w _ U
   ·cases g
  ·cases g
 case makeFunc fn first captured=>
  cases fn<;>simp only at g<;>try (cases g;done)
  rename_i f
  cases g
  simp only [NH] at u
  cases u
  refine NR.plain A (v':=.func (.func f) (first.map ρ') (captured.map ρ')) rfl ?_
  have key:∀(l:Array Operand),(∀x∈l,VRel σ (ρ x) (ρ' x))->∀i (h:i<((l.toList.map ρ).toArray).size) (h':i<(l.map ρ').size),VRel σ ((l.toList.map ρ).toArray)[i] (l.map ρ')[i]:=fun l hl i h h'=>by
   simp only [List.getElem_toArray,Q6,Array.getElem_map,Array.getElem_toList]
   exact hl _ (Array.getElem_mem _)
  exact .func (by simp) (by simp) (key first fun x u=>C x (by simp [Op.operands,u])) (key captured fun x u=>C x (by simp [Op.operands,u]))
 case makeMap t r=>
  split at g
  ·rename_i kt e E
   cases g
   simp only [NH] at u
   split at u
   case h_2=>cases u
   rename_i hr
   cases hp:place dest (.map []) H with
   | mk k K=>
   rw [hp] at u
   cases u
   obtain ⟨i1,i2⟩:=A.allocMap hp hd
   obtain ⟨g1,g2,g3,g4,g5,g6,g7⟩:=TB hp fun d e=>(hd d e).1
   refine ⟨.value (.map (some w.heap.size)),_,_,_, ?_,rfl,VRel.map PQ.put_same,i1,Stp.alloc A.fresh _,PQ.le_put i2,fun j hj=>?_,g3,fun a2=>?_⟩
   ·simp only [execOp]
    refine OI P w _ ?_
    cases r with
    | none=>simp [Instr.makeMap]
    | some x=>
      have B:=C x (by simp [Op.operands])
      cases hxx:ρ x<;>simp [hxx] at hr
      rw [hxx] at B
      simp [Instr.makeMap,B.int_left,run_underlying E,asInt,asIntOf]
   ·by_cases e:j=k
    ·subst e
     cases dest with
     | none=>exact .inr ⟨rfl,by rw [g5 rfl];exact Nd _⟩
     | some d=>exact .inl (by rw [(g6 d rfl).1])
    ·simp [PQ.put,e] at hj
   ·cases dest with
    | none=>exact absurd rfl a2
    | some d=>exact (g6 d rfl).2
  ·cases g
 case makeInterface t x=>cases g;simp [NH] at u
 case panic x=>cases g;simp [NH] at u
 case makeSlice t l c=>
  split at g
  ·rename_i e E
   obtain ⟨s,G,g⟩:=NM g
   obtain ⟨bb,hb,g⟩:=NM g
   obtain ⟨z,Y,g⟩:=NM g
   split at g
   ·cases g
   rename_i F
   cases g
   have be:z.length=s:=Po fun h=>F (.inl h)
   have bh:s≠0:=fun h=>F (.inr h)
   obtain ⟨i,J,hi,bf,rfl,az⟩:=TW Y
   obtain ⟨i2,an,a5⟩:=Xn G
   rw [hi] at an;cases an
   obtain ⟨i3,aq,a4⟩:=Yr hb
   rw [hi] at aq;cases aq
   subst a5 a4
   have av:=C l (by simp [Op.operands])
   have am:=C c (by simp [Op.operands])
   simp only [NH] at u
   split at u
   case h_2=>cases u
   rename_i kl ln kc cn hl hc
   split at u
   case isFalse=>cases u
   rename_i a0
   obtain ⟨b1,b2,b3,b4⟩:=a0
   cases hp:place dest (.cells false ((List.range (cn.toNat*i.size)).map fun j=>J.cells.toList.getD (j % J.cells.toList.length) undef)) H with
   | mk k K=>
   rw [hp] at u
   cases u
   rw [hl] at av;rw [hc] at am
   have ac:∀j,VRel σ (J.cells.toList.getD (j % J.cells.toList.length) undef) (J.cells[j % J.cells.size]!)/\(J.cells[j % J.cells.size]!).oneCell'=true:=fun j=>by
    have hj:j % J.cells.size<J.cells.size:=P3 _ (by simp at be;omega)
    have e1:J.cells.toList.getD (j % J.cells.toList.length) undef=J.cells[j % J.cells.size]:=by
     rw [Na,Array.length_toList,Array.getElem?_toList,Nu hj];rfl
    have e2:J.cells[j % J.cells.size]! = J.cells[j % J.cells.size]:=by simp [hj]
    rw [e1,e2]
    have:=az _ (Array.mem_toList_iff.2 (Array.getElem_mem hj))
    exact ⟨.atom this.1,this.2⟩
   refine NR.made A hd hp (cs:=madeCells J.cells (cn.toNat*i.size)) (el:=e) (fun j y hj=>?_) (by simp [size_madeCells]) A (Stp.refl _ _) (v':=.slice (some ⟨w.heap.size,0,none⟩) ln.toNat cn.toNat) ?_ ?_
   ·rw [O0] at hj
    simp only [Nc] at hj
    obtain ⟨j',ae,rfl⟩:=hj
    have au:j<cn.toNat*i.size:=by simpa using (List.getElem?_eq_some_iff.1 ae).1
    rw [List.getElem?_range au] at ae
    cases ae
    exact ⟨J.cells[j % J.cells.size]!,by simp [madeCells,au],(ac j).1,(ac j).2⟩
   ·simp only [execOp]
    refine OI P w _ ?_
    rw [av.int_left,am.int_left]
    exact run_make w t e i J E hi bf kl kc ln cn b1 b2 (by rw [Int.mul_comm];omega) (by omega)
   ·have ak:cn.toNat<2 ^ 62:=by omega
    simpa using VRel.slice (σ:=σ.put k ⟨w.heap.size,0,(madeCells J.cells (cn.toNat*i.size)).size⟩) (i:=k) (k:=0) (n:=ln.toNat) PQ.put_same ak
  ·cases g
 case slice t x lo hi mx=>
  have B:=C x (by simp [Op.operands])
  have ad:∀y∈lo.toList++hi.toList++mx.toList,VRel σ (ρ y) (ρ' y):=fun y hy=>C y (by
   simp only [Op.operands];simp at hy⊢;rcases hy with h | h | h<;>simp [h])
  split at g
  ·rename_i e E
   obtain ⟨s,G,g⟩:=NM g
   split at g
   ·cases g
   cases g
   simp only [NH,Nc,Prod.mk.injEq] at u
   obtain ⟨c,hc,rfl,rfl⟩:=u
   obtain ⟨v',U,V⟩:=Ndm (P:=P) (w:=w) E G B ad hc
   refine NR.plain A (v':=v') ?_ V
   simp only [execOp]
   exact OI P w _ U
  ·rename_i n e E
   obtain ⟨s,G,g⟩:=NM g
   split at g
   ·cases g
   cases g
   simp only [NH] at u
   split at u
   case h_2=>cases u
   rename_i a ha
   split at u
   case h_2=>cases u
   rename_i l h' m hb
   split at u
   case isFalse=>cases u
   rename_i ak
   cases u
   rw [ha] at B
   obtain ⟨L,Q,I,h2⟩:=B.ptr_left
   obtain ⟨m',r1,r2,r3,r4,r5,r6,r7⟩:=Tc (P:=P) (w:=w) hb ad (Nd _) false
   have hm:m'=m:=by
    by_cases e:mx=none
    ·rw [(r2 e).1,(r2 e).2]
    ·exact r3 e
   subst hm
   refine NR.plain A (v':=.slice (some (if m'=l then ⟨L.blk,L.base+a.off,none⟩ else (⟨L.blk,L.base+a.off,none⟩:Addr).add (l*s))) (h'-l) (m'-l)) ?_ ?_
   ·simp only [execOp]
    refine OI P w _ ?_
    rw [h2]
    simp [Instr.sliceAt,run_underlying E,Instr.sureAddr,r1,Sg G]
   ·split
    ·exact VRel.slice' I Q (by omega)
    ·rw [TD a _ I,TD _ _ rfl]
     have:=VRel.slice (σ:=σ) (i:=a.block) (k:=a.off+l*s) (n:=h'-l) (c:=m'-l) Q (by omega)
     rw [<-On] at this
     exact this
  ·rename_i E
   split at g
   ·cases g
   rename_i bg
   cases g
   have aw:mx=none:=by cases mx<;>simp_all
   subst aw
   simp only [NH] at u
   split at u
   case h_2=>cases u
   rename_i q hq
   split at u
   case h_2=>cases u
   rename_i l h' m hb
   cases u
   rw [hq] at B
   obtain ⟨m',r1,r2,r3,r4,r5,r6,r7⟩:=Tc (P:=P) (w:=w) hb ad (Nd _) false
   refine NR.plain A (v':=.string (q.extract l h')) ?_ (.atom rfl)
   simp only [execOp]
   refine OI P w _ ?_
   rw [B.string_left]
   simp only [O5] at r1
   simp [Instr.sliceAt,Instr.slice,run_underlying E,r1]
  ·cases g
 case fieldAddr s x f=>
  have B:=C x (by simp [Op.operands])
  split at g
  ·rename_i fs E
   obtain ⟨fd,hf,g⟩:=NM g
   obtain ⟨n,hn,g⟩:=NM g
   split at g
   ·cases g
   rename_i h0
   cases g
   simp only [NH] at u
   split at u
   case h_2=>cases u
   rename_i p hp
   cases u
   rw [hp] at B
   obtain ⟨L,Q,I,h2⟩:=B.ptr_left
   refine NR.plain A ?_ (VRel.ptr_add Q I fd.offset)
   simp only [execOp]
   refine OI P w _ ?_
   rw [h2]
   exact Ne8 E hf hn h0 _
  ·cases g
 case field s x f=>
  have B:=C x (by simp [Op.operands])
  split at g
  ·rename_i fs E
   obtain ⟨fd,hf,g⟩:=NM g
   obtain ⟨n,hn,g⟩:=NM g
   obtain ⟨ag,N,g⟩:=NM g
   cases ag with
   | true=>
     simp only [if_true] at g
     cases g
     simp only [NH] at u
     split at u
     case h_2=>cases u
     rename_i cs aa
     cases u
     rw [aa] at B
     obtain ⟨ys,h2,X,h4⟩:=B.agg_left
     refine NR.plain A (v':=.agg (ys.extract fd.offset (fd.offset+n))) ?_ (VRel.agg_iff.2 ⟨?_, ?_⟩)
     ·simp only [execOp]
      refine OI P w _ ?_
      rw [h2]
      simp [Instr.field,run_underlying E,hf,asAgg,Zl N hn]
     ·rw [extract_toList];simpa using (X.drop fd.offset).take n
     ·rw [extract_toList];exact fun y hy=>h4 y (List.mem_of_mem_drop (Ps hy))
   | false=>
     simp only [No,if_false] at g
     cases g
     simp only [NH] at u
     split at u
     case h_2=>cases u
     rename_i cs aa
     simp only [Nc,Prod.mk.injEq] at u
     obtain ⟨c,hc,rfl,rfl⟩:=u
     rw [aa] at B
     obtain ⟨ys,h2,X,h4⟩:=B.agg_left
     obtain ⟨y,h5,h6⟩:=X.get hc
     refine NR.plain A (v':=y) ?_ h6
     simp only [execOp]
     refine OI P w _ ?_
     rw [h2]
     simp [Instr.field,run_underlying E,hf,asAgg,Zn N (by simpa using h5)]
  ·cases g
 case indexAddr t x ix=>
  have B:=C x (by simp [Op.operands])
  have M:=C ix (by simp [Op.operands])
  split at g
  ·rename_i e E
   obtain ⟨s,G,g⟩:=NM g
   cases g
   simp only [NH] at u
   split at u
   case h_2=>cases u
   rename_i p len cap k n hp hi
   split at u
   case isFalse=>cases u
   rename_i hn
   cases u
   rw [hp] at B;rw [hi] at M
   obtain ⟨I,L,Q,hc⟩:=B.slice_left
   have bd:∃c',ρ' x=.slice (some ⟨L.blk,L.base+p.off,none⟩) len c':=by
    rcases hc with ⟨_,h⟩ | ⟨_,_,_,_,_,h⟩ | ⟨_,_,h0,h⟩
    ·exact ⟨_,h⟩
    ·exact ⟨_,h⟩
    ·rw [h0] at hn;simp at hn;omega
   obtain ⟨c',h2⟩:=bd
   refine NR.plain A ?_ (VRel.ptr_add Q I (n.toNat*s))
   simp only [execOp]
   refine OI P w _ ?_
   rw [h2,M.int_left]
   exact XZ E G _ len c' k n hn
  ·rename_i len e E
   obtain ⟨s,G,g⟩:=NM g
   cases g
   simp only [NH] at u
   split at u
   case h_2=>cases u
   rename_i p k n hp hi
   split at u
   case isFalse=>cases u
   rename_i hn
   cases u
   rw [hp] at B;rw [hi] at M
   obtain ⟨L,Q,I,h2⟩:=B.ptr_left
   refine NR.plain A ?_ (VRel.ptr_add Q I (n.toNat*s))
   simp only [execOp]
   refine OI P w _ ?_
   rw [h2,M.int_left]
   exact Ya E G _ k n hn
  ·cases g
 case index t x ix=>
  have B:=C x (by simp [Op.operands])
  have M:=C ix (by simp [Op.operands])
  split at g
  ·rename_i len e E
   obtain ⟨s,G,g⟩:=NM g
   obtain ⟨ag,N,g⟩:=NM g
   cases g
   simp only [NH] at u
   split at u
   case h_2=>cases u
   rename_i cs k n aa hi
   split at u
   case isFalse=>cases u
   rename_i hn
   rw [aa] at B;rw [hi] at M
   obtain ⟨ys,h2,X,h4⟩:=B.agg_left
   cases ag with
   | true=>
     simp only [if_true] at u
     cases u
     refine NR.plain A (v':=.agg (ys.extract (n.toNat*s) (n.toNat*s+s))) ?_ (VRel.agg_iff.2 ⟨?_, ?_⟩)
     ·simp only [execOp]
      refine OI P w _ ?_
      rw [h2,M.int_left,VD E G ys k n hn]
      exact Zl N G
     ·rw [extract_toList];simpa using (X.drop (n.toNat*s)).take s
     ·rw [extract_toList];exact fun y hy=>h4 y (List.mem_of_mem_drop (Ps hy))
   | false=>
     simp only [No,if_false,Nc,Prod.mk.injEq] at u
     obtain ⟨c,hc,rfl,rfl⟩:=u
     obtain ⟨y,h5,h6⟩:=X.get hc
     refine NR.plain A (v':=y) ?_ h6
     simp only [execOp]
     refine OI P w _ ?_
     rw [h2,M.int_left,VD E G ys k n hn]
     exact Zn N (by simpa using h5)
  ·rename_i E
   cases g
   simp only [NH] at u
   split at u
   case h_2=>cases u
   rename_i q k n hq hi
   split at u
   case isFalse=>cases u
   rename_i hn
   simp only [Nc,Prod.mk.injEq] at u
   obtain ⟨b,hb,rfl,rfl⟩:=u
   rw [hq] at B;rw [hi] at M
   refine NR.plain A (v':=.int .u8 b.toNat) ?_ (.atom rfl)
   simp only [execOp]
   refine OI P w _ ?_
   rw [B.string_left,M.int_left]
   exact Y8 E q k n hn hb
  ·cases g
 case lookup t m k ok=>
  split at g
  ·rename_i kt e E
   obtain ⟨z,Y,g⟩:=NM g
   obtain ⟨kk,S,g⟩:=NM g
   cases g
   exact Neb A E S Y (C m (by simp [Op.operands])) (C k (by simp [Op.operands])) u _ rfl
  ·cases g
 case mapUpdate t m k x=>
  split at g
  ·rename_i kt e E
   simp only [Nc] at g
   obtain ⟨kk,S,rfl⟩:=g
   obtain ⟨w',U,V,q3,q4,rfl⟩:=XK (P:=P) A E S (C m (by simp [Op.operands])) (C k (by simp [Op.operands])) (C x (by simp [Op.operands])) u
   refine NR.wrote A (nx:=.skip) ?_ rfl (.atom rfl) V q3 q4
   simp only [execOp]
   exact Y7 P w _ U
  ·cases g
 case insert t m k x=>
  split at g
  ·rename_i kt e E
   simp only [Nc] at g
   obtain ⟨kk,S,rfl⟩:=g
   obtain ⟨w',U,V,q3,q4,rfl⟩:=XK (P:=P) A E S (C m (by simp [Op.operands])) (C k (by simp [Op.operands])) (C x (by simp [Op.operands])) u
   refine NR.wrote A (nx:=.skip) ?_ rfl (.atom rfl) V q3 q4
   simp only [execOp]
   exact Y7 P w _ U
  ·cases g
 case mapEntry t m k=>
  split at g
  ·rename_i kt e E
   obtain ⟨z,Y,g⟩:=NM g
   obtain ⟨kk,S,g⟩:=NM g
   cases g
   obtain ⟨v',w',U,V,q3,q4,q5⟩:=Nea (P:=P) A E S Y (C m (by simp [Op.operands])) (C k (by simp [Op.operands])) u
   refine NR.wrote A (nx:=.value v') ?_ rfl V q3 q4 q5
   simp only [execOp]
   exact OI P w _ U
  ·cases g
 case entryStore t m s x=>
  cases g
  obtain ⟨w',U,V,q3,q4,rfl⟩:=Naz (P:=P) A t (C m (by simp [Op.operands])) (C s (by simp [Op.operands])) (C x (by simp [Op.operands])) u
  refine NR.wrote A (nx:=.skip) ?_ rfl (.atom rfl) V q3 q4
  simp only [execOp]
  exact Y7 P w _ U
 case extract x ix=>
  have B:=C x (by simp [Op.operands])
  cases g
  simp only [NH] at u
  split at u
  case h_2=>cases u
  rename_i vs bc
  simp only [Nc,Prod.mk.injEq] at u
  obtain ⟨c,hc,rfl,rfl⟩:=u
  rw [bc] at B
  obtain ⟨ys,h2,X⟩:=B.tuple_left
  obtain ⟨y,h5,h6⟩:=X.get hc
  refine NR.plain A (v':=y) ?_ h6
  simp only [execOp]
  refine OI P w _ ?_
  rw [h2]
  have ay:ys[ix]? = some y:=by simpa using h5
  simp [Instr.extract,ay]
end
end Go.AM


namespace Go.AM
theorem OG (base:Nat):∀(l:List Nat) (H:NB),(NN base l H).length=H.length
 | [],_=>rfl
 | i::l,H=>by simp only [NN,O9];exact (OG base l _).trans (by simp)
theorem PD (base:Nat) (H0:NB):∀(l:List Nat) (H:NB),(NL base l H0 H).length=H.length
 | [],_=>rfl
 | i::l,H=>by simp only [NL,O9];exact (PD base H0 l _).trans (by simp)
theorem QE (base:Nat) {j:Nat}:∀(l:List Nat) (H:NB),(∀i∈l,base+i≠j)->(NN base l H)[j]? = H[j]?
 | [],_,_=>rfl
 | i::l,H,h=>by
   simp only [NN,O9]
   have:=QE base (j:=j) l (H.set (base+i) .dead) fun k a=>h k (Od _ a)
   simp only [NN] at this
   rw [this,N3,Ni (h i Oy)]
theorem TQ (base:Nat) {j:Nat}:∀(l:List Nat) (H:NB),(∃i∈l,base+i=j)->j<H.length->(NN base l H)[j]? = some .dead
 | [],_,h,_=>by simp at h
 | i::l,H,h,hj=>by
   simp only [NN,O9]
   by_cases hl:∃k∈l,base+k=j
   ·exact TQ base l _ hl (by simpa using hj)
   ·have h0:base+i=j:=by
     obtain ⟨k,hk,e⟩:=h
     rcases Nh.1 hk with rfl | hk
     ·exact e
     ·exact absurd ⟨k,hk,e⟩ hl
    have:=QE base (j:=j) l (H.set (base+i) .dead) fun k hk e=>hl ⟨k,hk,e⟩
    simp only [NN] at this
    rw [this,N3,Nk h0,Nk (by omega)]
theorem QR (base:Nat) (H0:NB) {j:Nat}:∀(l:List Nat) (H:NB),(∀i∈l,base+i≠j)->(NL base l H0 H)[j]? = H[j]?
 | [],_,_=>rfl
 | i::l,H,h=>by
   simp only [NL,O9]
   have:=QR base H0 (j:=j) l (H.set (base+i) (NF H0 (base+i))) fun k a=>h k (Od _ a)
   simp only [NL] at this
   rw [this,N3,Ni (h i Oy)]
theorem RG (base:Nat) (H0:NB) {j:Nat}:∀(l:List Nat) (H:NB),(∃i∈l,base+i=j)->j<H.length->(NL base l H0 H)[j]? = some (NF H0 j)
 | [],_,h,_=>by simp at h
 | i::l,H,h,hj=>by
   simp only [NL,O9]
   by_cases hl:∃k∈l,base+k=j
   ·exact RG base H0 l _ hl (by simpa using hj)
   ·have h0:base+i=j:=by
     obtain ⟨k,hk,e⟩:=h
     rcases Nh.1 hk with rfl | hk
     ·exact e
     ·exact absurd ⟨k,hk,e⟩ hl
    have:=QR base H0 (j:=j) l (H.set (base+i) (NF H0 (base+i))) fun k hk e=>hl ⟨k,hk,e⟩
    simp only [NL] at this
    rw [this,N3,Nk h0,Nk (by omega),h0]
theorem We {H:NB} {j:Nat} (h:j<H.length):H[j]? = some (NF H j):=by
 unfold NF
 rw [Na,Nf h]
 rfl
theorem RP (base:Nat) (l:List Nat) (H:NB):NL base l H (NN base l H)=H:=by
 apply List.ext_getElem?
 intro j
 by_cases b:j<H.length
 ·by_cases hl:∃i∈l,base+i=j
  ·rw [RG base H l _ hl (by rw [OG];exact b),We b]
  ·have a:∀i∈l,base+i≠j:=fun i hi e=>hl ⟨i,hi,e⟩
   rw [QR base H l _ a,QE base l _ a]
 ·rw [Nv (by rw [PD,OG];omega),Nv (by omega)]
theorem Nqo (base:Nat) (l:List Nat) (H:NB) {r:Nat} (hr:r∈l) (b:Blk):NN base l (H.set (base+r) b)=NN base l H:=by
 apply List.ext_getElem?
 intro j
 by_cases c:j<H.length
 ·by_cases hl:∃i∈l,base+i=j
  ·rw [TQ base l _ hl (by simpa using c),TQ base l _ hl c]
  ·have a:∀i∈l,base+i≠j:=fun i hi e=>hl ⟨i,hi,e⟩
   rw [QE base l _ a,QE base l _ a,N3,Ni (a r hr)]
 ·rw [Nv (by rw [OG];simp;omega),Nv (by rw [OG];omega)]
theorem Nex (base:Nat) (l:List Nat) (H X:NB) {r:Nat} (hr:r∈l) (b:Blk) (d:base+r<H.length) (f:H.length<=X.length):NL base l (H.set (base+r) b) X=(NL base l H X).set (base+r) b:=by
 apply List.ext_getElem?
 intro j
 by_cases c:j<X.length
 ·by_cases hl:∃i∈l,base+i=j
  ·rw [RG base _ l X hl c,N3]
   by_cases he:base+r=j
   ·subst he
    rw [Nk rfl,Nk (by rw [PD];exact c)]
    unfold NF
    rw [Na,Qy d]
    rfl
   ·rw [Ni he,RG base H l X hl c]
    unfold NF
    rw [Na,P0 he,<-Na]
  ·have a:∀i∈l,base+i≠j:=fun i hi e=>hl ⟨i,hi,e⟩
   rw [QR base _ l X a,P0 (a r hr),QR base H l X a]
 ·rw [Nv (by rw [PD];omega),Nv (by rw [Pz,PD];omega)]
theorem Uv {d:Nat} {b:Blk} {H:NB}:place (some d) b H=(d,H.set d b):=rfl
theorem M3 {o:AOp} (d:kind o=.p) (lim:Nat) (dest:Option Nat) (ρ:Operand->Value) (H:NB) :
  NH lim dest o ρ H=((NH lim dest o ρ []).map (·.1)).map (·,H):=by
 cases o<;>simp [kind] at d<;>simp only [NH]
 case mov=>rfl
 case lenK=>rfl
 case makeFunc=>rfl
 case pick c a b=>cases ρ c<;>first | rfl | (rename_i b;cases b<;>rfl)
 case bin op x y=>cases NG op (ρ x) (ρ y)<;>rfl
 case eqv neg k x y=>cases VM k (ρ x) (ρ y)<;>rfl
 case un op x=>cases NQ op (ρ x)<;>rfl
 case conv k x=>cases ρ x<;>rfl
 case build z ps=>cases RJ ρ ps z<;>rfl
 case nilCheck x=>cases ρ x<;>first | rfl | (rename_i a;cases a<;>rfl) | (rename_i f a b;cases f<;>rfl)
 case fieldAddr o x=>cases ρ x<;>first | rfl | (rename_i a;cases a<;>rfl)
 case field1 o x=>cases ρ x<;>first | rfl | (rename_i cs;simp only [];cases cs.toList[o]?<;>rfl)
 case fieldN o n x=>cases ρ x<;>rfl
 case idxAddrA l e x i=>split<;>first | rfl | (split<;>rfl)
 case idxAddrS e x i=>split<;>first | rfl | (split<;>rfl)
 case idxA l e g x i=>
  split
  ·split
   ·split
    ·rfl
    ·simp [Function.comp_def]
   ·rfl
  ·rfl
 case idxStr x i=>
  split
  ·split
   ·simp [Function.comp_def]
   ·rfl
  ·rfl
 case sliceS e x lo hi mx=>cases U6 e ρ (ρ x) lo hi mx<;>rfl
 case sliceA n e x lo hi mx=>
  split
  ·split
   ·split<;>rfl
   ·rfl
  ·rfl
 case sliceStr x lo hi=>
  split
  ·split<;>rfl
  ·rfl
 case lenStr x=>cases ρ x<;>rfl
 case lenSlice x=>cases ρ x<;>rfl
 case capSlice x=>
  cases ρ x<;>try rfl
  rename_i a n c
  by_cases h:c<2 ^ 62<;>simp only [h,if_true,if_false]<;>rfl
 case die=>rfl
 case minmax mx xs=>
  cases xs with
  | nil=>rfl
  | cons x r=>simp only [];cases R7 mx (ρ x) (r.map ρ)<;>rfl
 case extract i x=>cases ρ x<;>first | rfl | (rename_i vs;simp only [];cases vs.toList[i]?<;>rfl)
 case strId x=>cases ρ x<;>rfl
 case call mp f args=>split at d<;>cases d
theorem Nq6 {o:AOp} (b:kind o=.p) {lim:Nat} {dest:Option Nat} {ρ:Operand->Value} {H H':NB} {v:Value} (h:NH lim dest o ρ H=some (v,H')) :
  H'=H/\∀a,NH lim dest o ρ a=some (v,a):=by
 rw [M3 b] at h
 cases hg:(NH lim dest o ρ []).map (·.1) with
 | none=>rw [hg] at h;cases h
 | some c=>
   rw [hg] at h
   cases h
   exact ⟨rfl,fun a=>by rw [M3 b,hg];rfl⟩
theorem V8 {o:AOp} (a:kind o=.r) (hc:∀mp f args,o≠.call mp f args) {lim:Nat} {dest:Option Nat} {ρ:Operand->Value} {H H':NB} {v:Value} (h:NH lim dest o ρ H=some (v,H')):H'=H:=by
 have fin:∀{x:Option Value},(x.map fun c=>(c,H))=some (v,H')->H'=H:=by
  intro x h
  cases x with
  | none=>cases h
  | some c=>cases h;rfl
 cases o<;>simp [kind] at a<;>simp only [NH] at h
 case load1=>split at h;exact fin h;cases h
 case loadN=>
  split at h
  ·simp only [Nc,Prod.mk.injEq] at h;obtain ⟨_,_,_,h⟩:=h;exact h.symm
  ·cases h
 case loadR=>
  split at h
  ·split at h
   ·simp only [Nc,Prod.mk.injEq] at h;obtain ⟨_,_,_,h⟩:=h;exact h.symm
   ·cases h
  ·cases h
 case loadO=>
  split at h
  ·split at h
   ·simp only [Nc,Prod.mk.injEq] at h;obtain ⟨_,_,_,h⟩:=h;exact h.symm
   ·cases h
  ·cases h
 case lenMap=>simp only [Nc,Prod.mk.injEq] at h;obtain ⟨_,_,_,h⟩:=h;exact h.symm
 case lookup=>
  split at h
  ·split at h
   ·split at h<;>cases h<;>rfl
   ·cases h
  ·cases h
 case rowMark=>
  split at h
  ·split at h
   ·split at h
    ·cases h;rfl
    ·cases h
   ·cases h
  ·cases h
 case b2s=>
  split at h
  ·split at h<;>cases h;rfl
  ·split at h
   ·split at h<;>cases h;rfl
   ·cases h
  ·cases h
 case call=>cases h
theorem Nq8 {o:AOp} (c:kind o=.a) {lim d:Nat} {ρ:Operand->Value} {H H':NB} {v:Value} (h:NH lim (some d) o ρ H=some (v,H')) :
  ∃b,H'=H.set d b/\∀e,NH lim (some d) o ρ e=some (v,e.set d b):=by
 cases o<;>simp [kind] at c<;>simp only [NH,Uv] at h⊢
 case alloc=>cases h;exact ⟨_,rfl,fun _=>rfl⟩
 case box x=>
  split at h
  case isFalse=>cases h
  rename_i g
  cases h
  exact ⟨_,rfl,fun _=>by rw [Nk g]⟩
 case buildSlice=>
  split at h
  case h_2=>cases h
  cases h
  exact ⟨_,rfl,fun _=>rfl⟩
 case makeSlice=>
  split at h
  case h_2=>cases h
  split at h
  case isFalse=>cases h
  rename_i hc
  cases h
  exact ⟨_,rfl,fun _=>by rw [Nk hc]⟩
 case growNil=>
  split at h
  case h_2=>cases h
  split at h
  case isFalse=>cases h
  rename_i hc
  cases h
  exact ⟨_,rfl,fun _=>by rw [Nk hc]⟩
 case makeMap=>
  split at h
  case h_2=>cases h
  cases h
  exact ⟨_,rfl,fun _=>rfl⟩
 case call mp f args=>split at c<;>cases c
theorem Va {X:NB} {i j:Nat} {b:Blk} (h:i≠j):NF (X.set j b) i=NF X i:=by
 unfold NF;rw [Na,Na,P0 (Ne.symm h)]
theorem UE {o:AOp} (h:kind o=.s):X8 o=true:=by
 cases o<;>(try (simp [kind] at h;done))<;>(try rfl)
 simp only [kind] at h
 split at h<;>cases h
theorem Nra {o:AOp} (h:X8 o=true):kind o=.s/\makes o=false:=by
 cases o<;>simp [X8] at h
 exact ⟨rfl,rfl⟩
theorem Nq5 {o:AOp} (f:kind o=.s) {lim d:Nat} {ρ:Operand->Value} {H H':NB} {v:Value} (h:NH lim (some d) o ρ H=some (v,H')) :
  ∃b,H'=H.set d b/\∀e,NF e d=NF H d->NH lim (some d) o ρ e=some (v,e.set d b):=by
 have g:=UE f
 cases o<;>simp [X8] at g
 rename_i n a x
 cases ha:ρ a with
 | pointer q=>
   cases q with
   | none=>simp [NH,ha] at h
   | some p=>
     simp only [NH,ha] at h⊢
     split at h
     case isFalse=>cases h
     rename_i hc
     simp only [Nc,Prod.mk.injEq] at h
     obtain ⟨K,h1,rfl,rfl⟩:=h
     unfold storeAt at h1
     rw [hc.1] at h1
     split at h1
     case h_2=>cases h1
     rename_i c hb
     split at h1
     case isFalse=>cases h1
     rename_i hl
     cases h1
     refine ⟨_,rfl,fun e h2=>?_⟩
     rw [Nk hc]
     unfold storeAt
     rw [hc.1,h2,hb]
     simp only
     rw [Nk hl]
     rfl
 | _=>simp [NH,ha] at h
theorem V5 {o:AOp} {lim:Nat} {dest:Option Nat} {ρ:Operand->Value} {H:NB} {r} (h:NH lim dest o ρ H=some r):NH lim dest (WG o) ρ H=some r:=by
 cases o<;>try exact h
 case loadO n x b=>
  simp only [NH] at h
  split at h
  case h_2=>cases h
  rename_i p q c hb
  split at h
  case isFalse=>cases h
  cases n with
  | none=>simp only [WG,NH,c];exact h
  | some k=>
    simp only [WG,NH,c]
    simp only [loadX,Option.map_map] at h
    exact h
 case storeN n a x=>
  simp only [NH] at h
  split at h
  case h_2=>cases h
  rename_i p c
  split at h
  case isFalse=>cases h
  rename_i hc
  simp only [WG,NH,c]
  rw [Nk hc.2]
  exact h
 case storeO n a x b=>
  simp only [NH] at h
  split at h
  case h_2=>cases h
  rename_i p q c hb
  split at h
  case isFalse=>cases h
  rename_i hc
  simp only [WG,NH,c]
  rw [Nk hc.2]
  exact h
 case loadR m n x=>
  cases c:ρ x with
  | pointer q=>
    cases q with
    | none=>simp [NH,c] at h
    | some p=>
      simp only [NH,c] at h
      split at h
      case isFalse=>cases h
      cases n with
      | none=>simp only [WG,NH,c];exact h
      | some k=>
        simp only [WG,NH,c]
        simp only [loadX,Option.map_map] at h
        exact h
  | _=>simp [NH,c] at h
 case storeD n a x=>
  cases dest with
  | none=>simp [NH] at h
  | some d=>
    cases c:ρ a with
    | pointer q=>
      cases q with
      | none=>simp [NH,c] at h
      | some p=>
        simp only [NH,c] at h
        split at h
        case isFalse=>cases h
        rename_i hc
        simp only [WG,NH,c]
        rw [Nk hc.2]
        exact h
    | _=>simp [NH,c] at h
 case append0=>
  simp only [NH] at h
  split at h
  ·rename_i e;simp only [WG,NH,e];exact h
  ·cases h
 case appendL=>
  simp only [NH] at h
  split at h
  ·rename_i e;simp only [WG,NH,e];exact h
  ·rename_i e
   split at h
   ·simp only [WG,NH,e];exact h
   ·cases h
  ·cases h
theorem M4 {o:AOp} (h:isL o=true):kind o=.w/\makes o=true/\isL (WG o)=false/\kind (WG o)=.w/\makes (WG o)=true:=by
 cases o<;>simp [isL] at h
 simp [WG,kind,makes,isL]
theorem Nmg {o:AOp} (f:isL o=true) {lim d:Nat} {ρ:Operand->Value} {H H':NB} {v:Value} (h:NH lim (some d) o ρ H=some (v,H')) (j:Nat) (c:j≠d):H'[j]? = H[j]?\/H'[j]? = some .dead:=by
 cases o<;>simp [isL] at f
 have set:∀{H:NB} {i:Nat} {b:Blk},j≠i->(H.set i b)[j]? = H[j]?:=fun {H i b} h=>by rw [N3,Ni (Ne.symm h)]
 have dead:∀{H:NB} {i:Nat},(H.set i .dead)[j]? = H[j]?\/(H.set i .dead)[j]? = some .dead:=fun {H i}=>by
  by_cases e:i=j
  ·subst e
   rw [N3,Nk rfl]
   by_cases hi:i<H.length
   ·rw [Nk hi];exact .inr rfl
   ·rw [Ni hi,Nv (by omega)];exact .inl rfl
  ·exact .inl (set (Ne.symm e))
 simp only [NH] at h
 split at h
 ·unfold OH at h
  split at h
  case h_2=>cases h
  rename_i e1 e2 e3
  cases e1
  split at h
  ·cases h
  split at h
  ·cases h;exact .inl rfl
  simp only at h
  split at h
  ·cases h;exact .inl (set c)
  ·cases h
 ·split at h
  case isFalse=>cases h
  rename_i hc
  unfold OH at h
  split at h
  case h_2=>cases h
  rename_i e1 e2 e3
  cases e1
  split at h
  ·cases h
  split at h
  ·cases h;exact .inl rfl
  repeat' (split at h)
  all_goals first
   | (cases h;done)
   | contradiction
   | (cases h;exact .inl rfl)
   | (cases h;exact .inl (set c))
   | (cases h;rename_i a;simp only [place,Prod.mk.injEq] at a;obtain ⟨_,rfl⟩:=a;rw [set c];exact dead)
   | (cases h;rename_i a;simp only [place,Prod.mk.injEq] at a;obtain ⟨_,rfl⟩:=a;exact .inl (set c))
   | (exfalso;omega)
 ·cases h
theorem Nq7 {o:AOp} (a:kind o=.n) {lim d:Nat} {ρ:Operand->Value} {H H':NB} {v:Value} (h:NH lim (some d) o ρ H=some (v,H')):H'=H\/∃b,H'=H.set d b:=by
 cases o<;>simp [kind] at a<;>simp only [NH] at h
 case append0=>
  split at h
  case h_2=>cases h
  unfold OH at h
  split at h
  case h_2=>cases h
  rename_i e1 e2 e3
  cases e1
  split at h
  ·cases h
  split at h
  ·cases h;exact .inl rfl
  split at h
  ·split at h
   ·simp only [Uv] at h;cases h;exact .inr ⟨_,rfl⟩
   ·cases h
  ·split at h
   ·cases h
   split at h
   ·rename_i q;exact absurd q (by unfold loose;omega)
   ·split at h
    ·split at h
     ·omega
     ·simp only [Uv] at h;cases h;exact .inr ⟨_,rfl⟩
    ·cases h
 case call mp f args=>split at a<;>cases a
theorem Nnt {o:AOp} {lim:Nat} {dest:Option Nat} {ρ ρ':Operand->Value} {H:NB} (h:∀x∈o.operands,ρ x=ρ' x):NH lim dest o ρ H=NH lim dest o ρ' H:=by
 have j:∀(ps:List (Nat×Nat×Operand)) (c:List Value),(∀x∈ps.map (·.2.2),ρ x=ρ' x)->RJ ρ ps c=RJ ρ' ps c:=by
  intro ps
  induction ps with
  | nil=>intro c _;rfl
  | cons p ps ih=>
    intro c hp
    obtain ⟨o,s,x⟩:=p
    simp only [RJ,hp x (by simp)]
    split
    ·exact ih _ fun y d=>hp y (by simp at d⊢;exact .inr d)
    ·rfl
 have i:∀(len cap:Nat) (lo hi mx:Option Operand),(∀x∈lo.toList++hi.toList++mx.toList,ρ x=ρ' x)->bounds ρ len cap lo hi mx=bounds ρ' len cap lo hi mx:=by
  intro len cap lo hi mx hb
  cases lo<;>cases hi<;>cases mx<;>simp at hb<;>unfold bounds<;>(try simp only [hb])
 cases o<;>simp only [AOp.operands] at h<;>simp only [NH]
 case build z ps=>rw [j ps z h]
 case buildSlice n z ps=>rw [j ps z h]
 case sliceS e x lo hi mx=>
  have g:=h x (by simp)
  have hb:=fun len cap=>i len cap lo hi mx fun y d=>h y (Od _ d)
  simp only [g,U6,hb]
 case sliceA n e x lo hi mx=>
  have g:=h x (by simp)
  have hb:=fun len cap=>i len cap lo hi mx fun y d=>h y (Od _ d)
  simp only [g,hb]
 case sliceStr x lo hi=>
  have g:=h x (by simp)
  have hb:=fun len cap=>i len cap lo hi none fun y d=>h y (Od _ (by simpa using d))
  simp only [g,hb]
 case minmax mx xs=>
  cases xs with
  | nil=>rfl
  | cons x r=>simp only [h x (by simp),P4 fun y d=>h y (Od _ d)]
 case makeMap hint=>
  cases hint with
  | none=>rfl
  | some x=>simp only [h x (by simp)]
 case makeFunc f a b=>
  rw [P4 fun y d=>h y (by simp [d]),P4 (l:=b) fun y d=>h y (by simp [d])]
 all_goals (first | rfl | (simp only [Nh,Np,or_false,forall_eq_or_imp,forall_eq] at h;simp only [h]))
structure CallOk0 (C:TH):Prop where
 pure:∀lim g as H v H',C true lim g as H=some (v,H')->H'=H
 len:∀mp lim g as H v H',C mp lim g as H=some (v,H')->lim<=H.length->H.length<=H'.length
 keep:∀mp lim g as H v H',C mp lim g as H=some (v,H')->lim<=H.length->∀j,j<lim->H'[j]? = H[j]?
theorem Tp {lim:Nat} {H H':NB} {a:Addr} {vs:List Value} (h:storeAt lim H a vs=some H'):H'.length=H.length:=by
 unfold storeAt at h
 split at h
 ·split at h
  ·cases h;simp
  ·cases h
 ·cases h
theorem ZR {o:AOp} (b:isL o=false) (a:kind o=.w) {lim d:Nat} {ρ:Operand->Value} {H H':NB} {v:Value} (h:NH lim (some d) o ρ H=some (v,H')):H'.length=H.length:=by
 cases o<;>simp [kind] at a<;>simp only [NH] at h
 case store=>
  split at h
  ·split at h
   ·simp only [Nc,Prod.mk.injEq] at h;obtain ⟨_,h1,_,rfl⟩:=h;exact Tp h1
   ·cases h
  ·cases h
 case storeN=>
  split at h
  ·split at h
   ·simp only [Nc,Prod.mk.injEq] at h;obtain ⟨_,h1,_,rfl⟩:=h;exact Tp h1
   ·cases h
  ·cases h
 case storeO=>
  split at h
  ·split at h
   ·simp only [Nc,Prod.mk.injEq] at h;obtain ⟨_,h1,_,rfl⟩:=h;exact Tp h1
   ·cases h
  ·cases h
 case append=>
  unfold OH at h
  split at h
  case h_2=>cases h
  split at h
  ·cases h
  split at h
  ·cases h;rfl
  split at h
  ·split at h
   ·simp only [Uv] at h;cases h;simp
   ·cases h
  ·split at h
   ·cases h
   split at h
   ·split at h
    ·split at h
     ·simp only [Uv] at h;cases h;simp
     ·cases h
    ·cases h
   ·split at h
    ·split at h
     ·split at h
      ·rename_i h1;cases h;exact Tp h1
      ·cases h
     ·simp only [Uv] at h;cases h;simp
    ·cases h
 case copy=>
  split at h
  ·split at h
   ·split at h
    ·split at h
     ·cases h;rfl
     ·simp only [Nc,Prod.mk.injEq] at h;obtain ⟨_,h1,_,rfl⟩:=h;exact Tp h1
    ·split at h
     ·cases h;rfl
     ·cases h
   ·cases h
  ·cases h
 case mapUpdate=>
  split at h
  ·split at h
   ·split at h
    ·split at h<;>cases h<;>simp
    ·cases h
   ·cases h
  ·cases h
 case mapEntry=>
  split at h
  ·split at h
   ·split at h
    ·split at h<;>cases h<;>simp
    ·cases h
   ·cases h
  ·cases h
 case entryStore=>
  split at h
  ·split at h
   ·split at h
    ·cases h;simp
    ·cases h
   ·cases h
  ·cases h
 case clear=>
  split at h
  ·split at h
   ·cases h;rfl
   ·simp only [Nc,Prod.mk.injEq] at h;obtain ⟨_,h1,_,rfl⟩:=h;exact Tp h1
  ·cases h
 case delete=>cases h
 case call=>split at a<;>cases a
 case appendL=>simp [isL] at b
theorem Wd {o:AOp} (a:kind o=.w) {lim d:Nat} {ρ:Operand->Value} {H H':NB} {v:Value} (h:NH lim (some d) o ρ H=some (v,H')):H'.length=H.length:=by
 cases hL:isL o with
 | false=>exact ZR hL a h
 | true=>obtain ⟨_,_,h1,h2,_⟩:=M4 hL;exact ZR h1 h2 (V5 h)
structure Planned (x:AIns):Prop where
 bare:kind x.op=.p\/kind x.op=.a\/kind x.op=.s->x.mask=[]
 dest:makes x.op=true->∃r,x.dest=some r
 home:X8 x.op=true->∃r,x.dest=some r
theorem Xu {o:AOp} (h:kind o=.a):makes o=true:=by cases o<;>simp_all [makes,kind]
theorem WY {o:AOp} (a:kind o=.w) (b:makes o=false) {lim:Nat} {dest:Option Nat} {ρ:Operand->Value} {H H':NB} {v:Value} (h:NH lim dest o ρ H=some (v,H')):H'.length=H.length:=by
 have key:NH lim dest o ρ H=NH lim (some 0) o ρ H:=by
  cases o<;>simp [kind] at a<;>simp [makes] at b<;>rfl
 rw [key] at h
 exact Wd a h
section
variable {C:TH} {N lim base:Nat}
def PG (C:TH) (lim base:Nat) (i:AIns) (ρ:Operand->Value) (H:NB):Option (Value×NB):=
 match Rj C lim (i.dest.map (base+·)) i.op ρ (NN base i.mask H) with
 | some (v,H')=>some (v,NL base i.mask H H')
 | none=>none
theorem Sw {i:AIns} {fr:Nat->Value} {H:NB}:SL C N lim (some base) i fr H =
  match RF N fr i.guard with
  | none=>none
  | some false=>some (undef,H)
  | some true=>PG C lim base i (ev fr) H:=rfl
theorem NY {o:AOp} (h:∀mp f args,o≠.call mp f args) (dest:Option Nat) (ρ:Operand->Value) (H:NB):Rj C lim dest o ρ H=NH lim dest o ρ H:=by
 cases o<;>first | rfl | (exact absurd rfl (h _ _ _))
theorem Nmc {o:AOp} (h:∃mp f args,o=.call mp f args):kind o=.r\/kind o=.c:=by
 obtain ⟨mp,f,args,rfl⟩:=h
 cases mp<;>simp [kind,CM.isPure]
theorem WT {o:AOp} (h:kind o=.p\/kind o=.a\/kind o=.w):∀mp f args,o≠.call mp f args:=fun mp f args e=>by
 rcases Nmc ⟨mp,f,args,e⟩ with h' | h'<;>rw [h'] at h<;>simp at h
theorem Nr6 {i:AIns} (hp:Planned i) (a:kind i.op=.p) (ρ:Operand->Value) (H:NB):PG C lim base i ρ H=((NH lim (i.dest.map (base+·)) i.op ρ []).map (·.1)).map (·,H):=by
 unfold PG
 rw [hp.bare (.inl a),NY (WT (.inl a))]
 simp only [NN,NL,List.foldl_nil]
 rw [M3 a]
 cases (Option.map (fun x=>x.1) (NH lim (Option.map (fun x=>base+x) i.dest) i.op ρ []))<;>rfl
theorem Vr (c:CallOk0 C) {i:AIns} (a:kind i.op=.r) {ρ:Operand->Value} {H H':NB} {v:Value} (h:PG C lim base i ρ H=some (v,H')):H'=H:=by
 unfold PG at h
 split at h
 case h_2=>cases h
 rename_i d H1 h1
 cases h
 have:H1=NN base i.mask H:=by
  by_cases hc:∃mp f args,i.op=.call mp f args
  ·obtain ⟨mp,f,args,hc⟩:=hc
   rw [hc] at h1 a
   have b:mp=.pure:=by cases mp<;>simp [kind,CM.isPure] at a⊢
   subst b
   simp only [Rj] at h1
   split at h1
   ·exact c.pure _ _ _ _ _ _ (SN h1).1
   ·cases h1
  ·rw [NY (fun mp f args e=>hc ⟨mp,f,args,e⟩)] at h1
   exact V8 a (fun mp f args e=>hc ⟨mp,f,args,e⟩) h1
 rw [this,RP]
theorem Nbf {i:AIns} (hp:Planned i) (c:kind i.op=.a) {r:Nat} (hr:i.dest=some r) {ρ:Operand->Value} {H H':NB} {v:Value} (h:PG C lim base i ρ H=some (v,H')) :
  ∃b,H'=H.set (base+r) b/\∀d,PG C lim base i ρ d=some (v,d.set (base+r) b):=by
 unfold PG at h⊢
 rw [hp.bare (.inr (.inl c)),NY (WT (.inr (.inl c))),hr] at h
 simp only [NN,NL,List.foldl_nil,Ns] at h
 split at h
 case h_2=>cases h
 rename_i e H1 h1
 cases h
 obtain ⟨b,e1,e2⟩:=Nq8 c h1
 refine ⟨b,e1,fun d=>?_⟩
 rw [hp.bare (.inr (.inl c)),NY (WT (.inr (.inl c))),hr]
 simp only [NN,NL,List.foldl_nil,Ns,e2]
theorem Njq {i:AIns} (hp:Planned i) (d:kind i.op=.s) {r:Nat} (hr:i.dest=some r) {ρ:Operand->Value} {H H':NB} {v:Value} (h:PG C lim base i ρ H=some (v,H')) :
  ∃b,H'=H.set (base+r) b/\∀a,NF a (base+r)=NF H (base+r)->PG C lim base i ρ a=some (v,a.set (base+r) b):=by
 have c:∀mp f args,i.op≠.call mp f args:=fun mp f args e=>by have:=UE d;rw [e] at this;simp [X8] at this
 unfold PG at h⊢
 rw [hp.bare (.inr (.inr d)),NY c,hr] at h
 simp only [NN,NL,List.foldl_nil,Ns] at h
 split at h
 case h_2=>cases h
 rename_i g H1 h1
 cases h
 obtain ⟨b,e1,e2⟩:=Nq5 d h1
 refine ⟨b,e1,fun a h2=>?_⟩
 rw [hp.bare (.inr (.inr d)),NY c,hr]
 simp only [NN,NL,List.foldl_nil,Ns,e2 a h2]
theorem Ni1 {o:AOp} (a:kind o=.n) {lim d:Nat} {ρ:Operand->Value} {H H':NB} {v:Value} (h:NH lim (some d) o ρ H=some (v,H')):H'.length=H.length:=by
 rcases Nq7 a h with rfl | ⟨b,rfl⟩
 ·rfl
 ·simp
theorem Nkf {o:AOp} (h:kind o=.n):makes o=true:=by
 cases o<;>(try (simp_all [makes,kind];done))
 rename_i mp f args
 cases mp<;>simp [kind,CM.isPure] at h
theorem Mq (base:Nat) (l:List Nat) (H:NB) (d:Nat) (b:Blk):NL base l H ((NN base l H).set d b)=H\/NL base l H ((NN base l H).set d b)=H.set d b:=by
 by_cases f:∃i∈l,base+i=d
 ·left
  apply List.ext_getElem?
  intro j
  by_cases c:j<H.length
  ·by_cases hl:∃i∈l,base+i=j
   ·rw [RG base H l _ hl (by simp [OG];exact c),We c]
   ·have a:∀i∈l,base+i≠j:=fun i hi e=>hl ⟨i,hi,e⟩
    rw [QR base H l _ a,N3,Ni (fun e=>hl (by rw [<-e];exact f)),QE base l _ a]
  ·rw [Nv (by rw [PD];simp [OG];omega),Nv (by omega)]
 ·right
  apply List.ext_getElem?
  intro j
  by_cases c:j<H.length
  ·by_cases hl:∃i∈l,base+i=j
   ·rw [RG base H l _ hl (by simp [OG];exact c),N3,Ni (fun e=>f (by rw [e];exact hl)),We c]
   ·have a:∀i∈l,base+i≠j:=fun i hi e=>hl ⟨i,hi,e⟩
    rw [QR base H l _ a,N3,N3,OG,QE base l _ a]
  ·rw [Nv (by rw [PD];simp [OG];omega),Nv (by simp;omega)]
theorem Nr7 {i:AIns} (hp:Planned i) (a:kind i.op=.n) {ρ:Operand->Value} {H H':NB} {v:Value} (h:PG C lim base i ρ H=some (v,H')) :
  ∃r,i.dest=some r/\(H'=H\/∃b,H'=H.set (base+r) b):=by
 obtain ⟨r,hr⟩:=hp.dest (Nkf a)
 refine ⟨r,hr, ?_⟩
 unfold PG at h
 have c:∀mp f args,i.op≠.call mp f args:=fun mp f args e=>by rw [e] at a;cases mp<;>simp [kind,CM.isPure] at a
 rw [NY c,hr] at h
 simp only [Ns] at h
 split at h
 case h_2=>cases h
 rename_i d H1 h1
 cases h
 rcases Nq7 a h1 with rfl | ⟨b,rfl⟩
 ·rw [RP];exact .inl rfl
 ·rcases Mq base i.mask H (base+r) b with e | e
  ·exact .inl e
  ·exact .inr ⟨b,e⟩
theorem Nvr {o:AOp} (h:kind o=.c):∃mp f args,o=.call mp f args:=by
 cases o<;>simp [kind] at h
 exact ⟨_,_,_,rfl⟩
theorem Ne4 (q:CallOk0 C) {i:AIns} (hp:Planned i) {ρ:Operand->Value} {A X:NB} {v:Value} (hl:lim<=A.length) (d:Rj C lim (i.dest.map (base+·)) i.op ρ A=some (v,X)):A.length<=X.length/\(kind i.op≠.c->X.length=A.length):=by
 by_cases hc:∃mp f args,i.op=.call mp f args
 ·obtain ⟨mp,f,args,hc⟩:=hc
  rw [hc] at d
  simp only [Rj] at d
  split at d
  case h_2=>cases d
  have l:=(SN d).1
  have m:mp.lim lim A<=A.length:=by cases mp<;>simp [CM.lim,hl]
  refine ⟨q.len _ _ _ _ _ _ _ l m,fun j=>?_⟩
  rw [hc] at j
  have o:mp=.pure:=by cases mp<;>simp [kind,CM.isPure] at j⊢
  subst o
  rw [q.pure _ _ _ _ _ _ l]
 ·have k:∀mp f args,i.op≠.call mp f args:=fun mp f args e=>hc ⟨mp,f,args,e⟩
  rw [NY k] at d
  have:X.length=A.length:=by
   cases j:kind i.op with
   | p=>rw [M3 j] at d;simp only [Nc,Prod.mk.injEq] at d;obtain ⟨_,_,_,h⟩:=d;rw [h]
   | r=>rw [V8 j k d]
   | a=>
     obtain ⟨r',g⟩:=hp.dest (Xu j)
     rw [g] at d
     obtain ⟨b,e1,_⟩:=Nq8 j d
     rw [e1];simp
   | w=>
     cases hm:makes i.op with
     | true=>
       obtain ⟨r',g⟩:=hp.dest hm
       rw [g] at d
       exact Wd j d
     | false=>exact WY j hm d
   | n=>
     obtain ⟨r',g⟩:=hp.dest (Nkf j)
     rw [g] at d
     exact Ni1 j d
   | c=>exact absurd (Nvr j) (fun ⟨_,_,_,e⟩=>k _ _ _ e)
   | s=>
     obtain ⟨r',g⟩:=hp.home (UE j)
     rw [g] at d
     obtain ⟨b,e1,_⟩:=Nq5 j d
     rw [e1];simp
  exact ⟨by omega,fun _=>this⟩
theorem Vs (a:CallOk0 C) {i:AIns} (hp:Planned i) {ρ:Operand->Value} {H H':NB} {v:Value} (hl:lim<=H.length) (h:PG C lim base i ρ H=some (v,H')):H.length<=H'.length:=by
 unfold PG at h
 split at h
 case h_2=>cases h
 rename_i b X h1
 cases h
 have:=(Ne4 a hp (by rw [OG];exact hl) h1).1
 rw [OG] at this
 rw [PD];exact this
theorem Ud (d:CallOk0 C) {i:AIns} (hp:Planned i) {r:Nat} (hr:r∈i.mask) (ρ:Operand->Value) (H:NB) (b:Blk) (hl:lim<=H.length) (a:base+r<H.length) :
  PG C lim base i ρ (H.set (base+r) b)=(PG C lim base i ρ H).map fun p=>(p.1,p.2.set (base+r) b):=by
 unfold PG
 rw [Nqo base i.mask H hr b]
 cases hs:Rj C lim (i.dest.map (base+·)) i.op ρ (NN base i.mask H) with
 | none=>rfl
 | some p=>
   obtain ⟨v,X⟩:=p
   simp only [Ns]
   have c:=(Ne4 d hp (by rw [OG];exact hl) hs).1
   rw [OG] at c
   rw [Nex base i.mask H X hr b a c]
theorem Nbe (b:CallOk0 C) {i:AIns} (hp:Planned i) {r:Nat} (hr:r∈i.mask) {ρ:Operand->Value} {H H':NB} {v:Value} (hl:lim<=H.length) (c:base+r<H.length) (h:PG C lim base i ρ H=some (v,H')):NF H' (base+r)=NF H (base+r):=by
 have a:=Vs b hp hl h
 unfold PG at h
 split at h
 case h_2=>cases h
 rename_i d X h1
 cases h
 rw [PD] at a
 have:=RG base H i.mask X ⟨r,hr,rfl⟩ (by omega)
 unfold NF
 rw [Na,this]
 rfl
structure Sep (x y:AIns):Prop where
 apart:Z9 x y=true
 calm:AM.calm x.op y.op=true
 maskY:(kind y.op=.r\/kind y.op=.w\/kind y.op=.n\/kind y.op=.c)->∀r,x.dest=some r->r∈y.mask
 maskX:(kind x.op=.r\/kind x.op=.w\/kind x.op=.n\/kind x.op=.c)->∀r,y.dest=some r->r∈x.mask
 dests:∀r,x.dest=some r->y.dest≠some r
theorem Nqr {i:AIns} {t:Nat} (h:Operand.tmp t∈i.op.operands):t∈i.looks:=by
 unfold AIns.looks
 exact Ox _ (List.mem_filterMap.2 ⟨.tmp t,h,rfl⟩)
theorem Ngh {i:AIns} {t:Nat} {b:Bool} (h:i.guard=some (t,b)):t∈i.looks:=by
 unfold AIns.looks
 rw [h]
 exact Pr _ (by simp)
theorem Y5 {o:AOp} {dest:Option Nat} {ρ ρ':Operand->Value} {H:NB} (h:∀x∈o.operands,ρ x=ρ' x):Rj C lim dest o ρ H=Rj C lim dest o ρ' H:=by
 by_cases hc:∃mp f args,o=.call mp f args
 ·obtain ⟨mp,f,args,rfl⟩:=hc
  simp only [AOp.operands] at h
  simp only [Rj,h f (by simp),P4 fun y b=>h y (Od _ b)]
 ·have a:∀mp f args,o≠.call mp f args:=fun mp f args e=>hc ⟨mp,f,args,e⟩
  rw [NY a,NY a]
  exact Nnt h
theorem Ni5 {b:Option Nat} {i:AIns} {fr:Nat->Value} {H:NB} {d:Nat} {v:Value} (h:d∉i.looks):SL C N lim b i (upd fr d v) H=SL C N lim b i fr H:=by
 have a:RF N (upd fr d v) i.guard=RF N fr i.guard:=by
  cases hg:i.guard with
  | none=>rfl
  | some g=>
    obtain ⟨t,b⟩:=g
    have:t≠d:=fun e=>h (e▸Ngh hg)
    simp [RF,upd,this]
 have he:∀x∈i.op.operands,ev (upd fr d v) x=ev fr x:=fun x c=>by
  cases x with
  | tmp t=>
    have:t≠d:=fun e=>h (e▸Nqr c)
    simp [ev,upd,this]
  | _=>rfl
 unfold SL
 rw [a]
 cases b with
 | none=>simp only [Y5 (C:=C) (lim:=lim) he]
 | some b=>simp only [Y5 (C:=C) (lim:=lim) he]
theorem Nas {b:Option Nat} {i:AIns} {fr fr':Nat->Value} {H:NB} {dst:Option Nat} {v:Value} (hp:WQ N fr dst v=some fr') (h:∀d,dst=some d->d∉i.looks):SL C N lim b i fr' H=SL C N lim b i fr H:=by
 cases dst with
 | none=>cases hp;rfl
 | some d=>
   simp only [WQ] at hp
   split at hp
   ·cases hp;exact Ni5 (h d rfl)
   ·cases hp
theorem put_comm {fr fr1 fr2:Nat->Value} {x y:Option Nat} {v u:Value} (h1:WQ N fr x v=some fr1) (h2:WQ N fr1 y u=some fr2) (c:∀d,x=some d->y≠some d) :
  ∃a,WQ N fr y u=some a/\WQ N a x v=some fr2:=by
 cases x with
 | none=>cases h1;exact ⟨fr2,h2,rfl⟩
 | some d=>
   cases y with
   | none=>cases h2;exact ⟨fr,rfl,h1⟩
   | some e=>
     simp only [WQ] at h1 h2
     split at h1
     case isFalse=>cases h1
     rename_i f
     split at h2
     case isFalse=>cases h2
     rename_i he
     cases h1;cases h2
     refine ⟨upd fr e u,by simp [WQ,he], ?_⟩
     have b:d≠e:=fun h=>c d rfl (by rw [h])
     simp only [WQ,f,if_true,Option.some.injEq]
     funext t
     simp only [upd]
     by_cases h1:t=d
     ·subst h1;simp [b]
     ·simp [h1]
theorem TR {H:NB} {i:Nat} {b:Blk} (h:NF H i=b) (hb:b≠.dead):H[i]? = some b:=by
 unfold NF at h
 rw [Na] at h
 cases hi:H[i]? with
 | none=>rw [hi] at h;simp at h;exact absurd h.symm hb
 | some x=>rw [hi] at h;simp at h;rw [h]
theorem Nle {o:AOp} (hr:isRead o=true) {lim:Nat} {dest:Option Nat} {ρ:Operand->Value} {H c:NB} {v:Value} (i:∀(j:Nat) b,H[j]? = some b->c[j]? = some b) (h:NH lim dest o ρ H=some (v,H)):NH lim dest o ρ c=some (v,c):=by
 have d:∀{j:Nat} {b:Blk},b≠.dead->NF H j=b->NF c j=b:=fun {j b} hb h=>by
  have:=i j _ (TR h hb)
  unfold NF;rw [Na,this];rfl
 have h1:∀{p:Addr} {z:Value},AM.loadCell H p=some z->AM.loadCell c p=some z:=fun {p z} a=>by
  unfold AM.loadCell at a⊢
  split at a
  ·rename_i hb;rw [d (by intro e;cases e) hb];exact a
  ·cases a
 have g:∀{p:Addr} {n:Nat} {z:List Value},AM.loadCells H p n=some z->AM.loadCells c p n=some z:=fun {p n z} a=>by
  unfold AM.loadCells at a⊢
  split at a
  ·rename_i hb;rw [d (by intro e;cases e) hb];exact a
  ·cases a
 have f:∀{m:Value} {es:List (Value×Value)},mapEntries H m=some es->mapEntries c m=some es:=fun {m es} a=>by
  unfold mapEntries at a⊢
  split at a
  ·exact a
  ·split at a
   ·rename_i hb;rw [d (by intro e;cases e) hb];exact a
   ·cases a
  ·cases a
 cases o<;>simp [isRead] at hr<;>simp only [NH] at h⊢
 case load1=>
  split at h
  ·simp only [Nc,Prod.mk.injEq] at h
   obtain ⟨z,a,rfl,_⟩:=h
   rw [h1 a];rfl
  ·cases h
 case loadN=>
  split at h
  ·simp only [Nc,Prod.mk.injEq] at h
   obtain ⟨z,a,rfl,_⟩:=h
   rw [g a];rfl
  ·cases h
 case lenMap=>
  simp only [Nc,Prod.mk.injEq] at h
  obtain ⟨z,a,rfl,_⟩:=h
  rw [f a];rfl
 case lookup=>
  split at h
  ·rename_i a
   rw [f a]
   simp only
   split at h
   ·rename_i hc
    rw [Nk hc]
    split at h<;>cases h<;>rfl
   ·cases h
  ·cases h
 case b2s=>
  split at h
  ·split at h
   ·rename_i hc;cases h;rw [Nk hc]
   ·cases h
  ·split at h
   ·rename_i a
    rw [g a]
    simp only
    split at h
    ·cases h;rfl
    ·cases h
   ·cases h
  ·cases h
theorem Nix {o:AOp} (hr:isLoad o=true) {lim:Nat} {dest:Option Nat} {ρ:Operand->Value} {A B:NB} {v:Value} (b:∀{j:Nat} {ro:Bool} {c:List Value},NF A j=.cells ro c->NF B j=.cells ro c) (h:NH lim dest o ρ A=some (v,A)):NH lim dest o ρ B=some (v,B):=by
 cases o<;>simp [isLoad] at hr<;>simp only [NH] at h⊢
 case load1=>
  split at h
  ·rename_i p hp
   simp only [Nc,Prod.mk.injEq] at h
   obtain ⟨z,a,rfl,_⟩:=h
   have:AM.loadCell B p=some z:=by
    unfold AM.loadCell at a⊢
    split at a
    ·rename_i hb;rw [b hb];exact a
    ·cases a
   rw [this];rfl
  ·cases h
 case loadN nn d=>
  split at h
  ·rename_i p hp
   simp only [Nc,Prod.mk.injEq] at h
   obtain ⟨z,a,rfl,_⟩:=h
   have:AM.loadCells B p nn=some z:=by
    unfold AM.loadCells at a⊢
    split at a
    ·rename_i hb;rw [b hb];exact a
    ·cases a
   rw [this];rfl
  ·cases h
theorem Nal {m:Bool} {n:Option Nat} {b:Operand} {lim:Nat} {dest:Option Nat} {ρ:Operand->Value} {A B:NB} {v:Value} (c:∀{j:Nat},SC m (NF A j)=true->NF B j=NF A j) (h:NH lim dest (.loadR m n b) ρ A=some (v,A)):NH lim dest (.loadR m n b) ρ B=some (v,B):=by
 simp only [NH] at h⊢
 split at h
 ·rename_i p hp
  split at h
  case isFalse=>cases h
  rename_i hb
  have e:=c hb
  simp only [Nc,Prod.mk.injEq] at h
  obtain ⟨z,a,rfl,_⟩:=h
  have:AM.loadX n B p=some z:=by
   unfold AM.loadX AM.loadCell AM.loadCells at a⊢
   rw [e];exact a
  rw [e,Nk hb,this];rfl
 ·cases h
theorem Ne2 {m:Nat} {p y:Operand} {lim:Nat} {dest:Option Nat} {ρ:Operand->Value} {A B:NB} {v:Value} (h:NH lim dest (.storeN m p y) ρ A=some (v,B)):∀{j:Nat},SC false (NF A j)=true->NF B j=NF A j:=by
 intro j d
 simp only [NH] at h
 split at h
 case h_2=>cases h
 rename_i a g
 split at h
 case isFalse=>cases h
 rename_i hc
 simp only [Nc,Prod.mk.injEq] at h
 obtain ⟨f,b,_,rfl⟩:=h
 have c:j≠a.block:=fun e=>by rw [e,hc.1] at d;cases d
 unfold storeAt at b
 split at b
 ·split at b
  ·cases b
   exact Va c
  ·cases b
 ·cases b
theorem Nrb {a b:AOp} (h:isO a b=true):∃n x t m p y,a=.loadO n x (.tmp t)/\b=.storeO m p y (.tmp t):=by
 unfold isO at h
 split at h
 ·rename_i n x s m p y t
  rw [beq_iff_eq] at h
  subst h
  exact ⟨_,_,_,_,_,_,rfl,rfl⟩
 ·cases h
theorem Ni0 {n:Option Nat} {x b:Operand} {lim:Nat} {dest:Option Nat} {ρ:Operand->Value} {A B:NB} {v:Value} (f:∀q,ρ b=.pointer (some q)->∀{j:Nat} {ro:Bool} {c:List Value},j≠q.block->NF A j=.cells ro c->NF B j=.cells ro c) (h:NH lim dest (.loadO n x b) ρ A=some (v,A)):NH lim dest (.loadO n x b) ρ B=some (v,B):=by
 simp only [NH] at h⊢
 split at h
 case h_2=>cases h
 rename_i p q hp g
 split at h
 case isFalse=>cases h
 rename_i a
 simp only [Nc,Prod.mk.injEq] at h
 obtain ⟨z,d,rfl,_⟩:=h
 have:AM.loadX n B p=some z:=by
  unfold AM.loadX AM.loadCell AM.loadCells at d⊢
  cases hc:NF A p.block with
  | cells ro c=>
    have e:=f q g a hc
    rw [hc] at d
    rw [e];exact d
  | _=>rw [hc] at d;cases n<;>simp at d
 rw [Nk a,this];rfl
theorem Ne1 {m:Nat} {p y b:Operand} {lim:Nat} {dest:Option Nat} {ρ:Operand->Value} {A B:NB} {v:Value} (h:NH lim dest (.storeO m p y b) ρ A=some (v,B)):∀q,ρ b=.pointer (some q)->∀{j:Nat},j≠q.block->NF B j=NF A j:=by
 intro q f j e
 simp only [NH] at h
 split at h
 case h_2=>cases h
 rename_i a k i d
 rw [f] at d
 cases d
 split at h
 case isFalse=>cases h
 rename_i hc
 simp only [Nc,Prod.mk.injEq] at h
 obtain ⟨g,c,_,rfl⟩:=h
 unfold storeAt at c
 split at c
 ·split at c
  ·cases c
   exact Va (by rw [hc.1];exact e)
  ·cases c
 ·cases c
theorem ZV:∀{a:List IntKind} {xs:List Value},Sr a xs=true->Ux xs xs=some true
 | [],[],_=>rfl
 | [],_::_,h=>by simp [Sr] at h
 | k::a,[],h=>by simp [Sr] at h
 | k::a,.int k' n::xs,h=>by
   simp only [Sr,Nq] at h
   simp [Ux,ZV h.2]
theorem Nme {b:ByteArray}:Sq (.string b) (.string b)=some true:=by
 simp only [Sq,Option.some.injEq]
 rw [beq_toListBytes,ByteArray.toList_eq]
 exact beq_self_eq_true _
theorem Ni2 {kk:KK} {k:Value} (h:Sb kk k=true):Sq k k=some true:=by
 unfold Sb at h
 split at h
 ·simp [Sq]
 ·exact Nme
 ·simp [Sq]
 ·exact ZV h
 ·cases h
theorem Nmk {X:NB} {j:Nat} {b:Blk} (h:j<X.length):NF (X.set j b) j=b:=by simp [NF,h]
theorem Nrc {a b:AOp} (h:isE a b=true):∃kk k n x y c,a=.lookup kk (.int k n) false (.tmp x) (.tmp y)/\b=.mapEntry c (.int k n) (.tmp x) (.tmp y):=by
 unfold isE at h
 split at h
 ·simp only [Nq,beq_iff_eq] at h
  obtain ⟨⟨⟨rfl,rfl⟩,rfl⟩,rfl⟩:=h
  exact ⟨_,_,_,_,_,_,rfl,rfl⟩
 ·cases h
theorem YT {k z:Value}:∀{es:List (Value×Value)} {i:Nat},AM.findKey k es i=some none->∀{kk:KK},Sb kk k=true->∃j,AM.findKey k (es++[(k,z)]) i=some (some (j,z))
 | [],i,_,kk,hk=>⟨i,by simp [AM.findKey,Ni2 hk]⟩
 | (a,b)::es,i,h,kk,hk=>by
   rw [N1]
   unfold AM.findKey at h⊢
   split at h
   ·cases h
   ·rename_i e
    exact YT h hk
   ·cases h
theorem Ngg {kk m:KK} {k:IntKind} {n:Int} {x y:Nat} {lim lim':Nat} {dest a:Option Nat} {ρ:Operand->Value} {A A' B o:NB} {v u:Value}
  (h:NH lim dest (.lookup kk (.int k n) false (.tmp x) (.tmp y)) ρ A=some (v,A)) (he:NH lim' a (.mapEntry m (.int k n) (.tmp x) (.tmp y)) ρ B=some (u,o))
  {G:NB} (p:∀r es,NF A r=.map es->NF G r=.map es) (s:∀r es,NF B r=.map es->NF G r=.map es) (f:∀r es0 es es',NF A r=.map es0->NF B r=.map es->NF o r=.map es'->NF A' r=.map es'):NH lim dest (.lookup kk (.int k n) false (.tmp x) (.tmp y)) ρ A'=some (v,A'):=by
 simp only [NH] at h he⊢
 split at he
 case h_2=>cases he
 rename_i r hr
 split at he
 case h_2=>cases he
 rename_i es hb
 split at he
 case isFalse=>cases he
 rename_i hc
 obtain ⟨es0,h0⟩:∃es0,mapEntries A (ρ (.tmp x))=some es0:=by
  cases hm:mapEntries A (ρ (.tmp x)) with
  | none=>rw [hm] at h;cases h
  | some es0=>exact ⟨es0,rfl⟩
 have c:NF A r=.map es0:=by
  rw [hr] at h0
  simp only [mapEntries] at h0
  split at h0
  ·rename_i q;cases h0;exact q
  ·cases h0
 obtain rfl:es0=es:=by
  have h1:=p r es0 c
  rw [s r es hb] at h1
  cases h1;rfl
 rw [h0] at h
 replace h:(if Sb kk (ρ (.tmp y))=true then _ else none)=_:=h
 split at h
 case isFalse=>cases h
 rename_i d
 split at he
 ·rename_i i w g
  cases he
  rw [g] at h
  have b:mapEntries A' (ρ (.tmp x))=some es0:=by rw [hr];simp [mapEntries,f r es0 es0 es0 c hb hb]
  rw [b]
  simp only [d,if_true,g]
  cases h;rfl
 ·rename_i g
  cases he
  rw [g] at h
  have l:r<B.length:=(List.getElem?_eq_some_iff.1 (TR hb (by intro e;cases e))).1
  have b:mapEntries A' (ρ (.tmp x))=some (es0++[(ρ (.tmp y),.int k n)]):=by
   rw [hr];simp [mapEntries,f r es0 es0 _ c hb (Nmk l)]
  obtain ⟨j,t⟩:=YT (z:=.int k n) g d
  rw [b]
  simp only [d,if_true,t]
  cases h;rfl
 ·cases he
theorem Nk1 (Z:CallOk0 C) {x y:AIns} (hx:Planned x) (hy:Planned y) (hs:Sep x y) {fr:Nat->Value} {H H1 I:NB} {v u:Value} (hl:lim<=H.length) (ac:∀r,x.dest=some r\/y.dest=some r->base+r<H.length) (h1:SL C N lim (some base) x fr H=some (v,H1)) (h2:SL C N lim (some base) y fr H1=some (u,I)) :
  ∃V,SL C N lim (some base) y fr H=some (u,V)/\SL C N lim (some base) x fr V=some (v,I):=by
 rw [Sw] at h1 h2
 cases gx:RF N fr x.guard with
 | none=>rw [gx] at h1;cases h1
 | some wx=>
 cases gy:RF N fr y.guard with
 | none=>rw [gy] at h2;cases h2
 | some wy=>
 rw [gx] at h1
 rw [gy] at h2
 cases wx with
 | false=>cases h1;exact ⟨I,by rw [Sw,gy];exact h2,by rw [Sw,gx]⟩
 | true=>
 cases wy with
 | false=>cases h2;exact ⟨H,by rw [Sw,gy],by rw [Sw,gx];exact h1⟩
 | true=>
 simp only at h1 h2
 suffices hh:∃V,PG C lim base y (ev fr) H=some (u,V)/\PG C lim base x (ev fr) V=some (v,I) by
  obtain ⟨V,e1,e2⟩:=hh
  exact ⟨V,by rw [Sw,gy];exact e1,by rw [Sw,gx];exact e2⟩
 have am:∀{i:AIns} (hp:Planned i) (hk:kind i.op=.p) {A B:NB} {z:Value},PG C lim base i (ev fr) A=some (z,B)->B=A/\∀D,PG C lim base i (ev fr) D=some (z,D):=by
  intro i hp hk A B z h
  rw [Nr6 hp hk] at h
  cases hg:(NH lim (i.dest.map (base+·)) i.op (ev fr) []).map (·.1) with
  | none=>rw [hg] at h;cases h
  | some c=>rw [hg] at h;cases h;exact ⟨rfl,fun D=>by rw [Nr6 hp hk,hg];rfl⟩
 by_cases a6:kind x.op=.p
 ·obtain ⟨rfl,F⟩:=am hx a6 h1
  exact ⟨I,h2,F I⟩
 by_cases a9:kind y.op=.p
 ·obtain ⟨rfl,F⟩:=am hy a9 h2
  exact ⟨H,F H,h1⟩
 by_cases hE:isE x.op y.op=true
 ·
  obtain ⟨kk,k,n,a,b,bc,ex,ey⟩:=Nrc hE
  have Y:kind x.op=.r:=by rw [ex];rfl
  have ky:kind y.op=.w:=by rw [ey];rfl
  have Q:∀mp f args,x.op≠.call mp f args:=fun mp f args e=>by rw [ex] at e;cases e
  have aw:∀mp f args,y.op≠.call mp f args:=fun mp f args e=>by rw [ey] at e;cases e
  have e1:=Vr Z Y h1
  subst e1
  refine ⟨I,h2, ?_⟩
  unfold PG at h1 h2⊢
  rw [NY Q] at h1⊢
  rw [NY aw] at h2
  split at h1
  case h_2=>cases h1
  rename_i v1 T g
  simp only [Option.some.injEq,Prod.mk.injEq] at h1
  obtain ⟨rfl,_⟩:=h1
  have:=V8 Y Q g
  subst this
  split at h2
  case h_2=>cases h2
  rename_i v2 Hn hn
  simp only [Option.some.injEq,Prod.mk.injEq] at h2
  obtain ⟨rfl,rfl⟩:=h2
  rw [ex] at g⊢
  rw [ey] at hn
  have ag:∀(M:List Nat) (G:NB) r es,NF (NN base M G) r=.map es->(∀i∈M,base+i≠r)/\NF G r=.map es:=fun M G r es o=>by
   have L:r<G.length:=by
    have:=(List.getElem?_eq_some_iff.1 (TR o (by intro e;cases e))).1
    rwa [OG] at this
   by_cases E:∃i∈M,base+i=r
   ·have:=TQ base M _ E L
    unfold NF at o
    rw [Na,this] at o
    cases o
   ·have l:∀i∈M,base+i≠r:=fun i hi e=>E ⟨i,hi,e⟩
    refine ⟨l, ?_⟩
    have e1:NF (NN base M G) r=NF G r:=by
     unfold NF;rw [Na,QE base M _ l,<-Na]
    rw [<-e1];exact o
  have key:=Ngg (A':=NN base x.mask (NL base y.mask H1 Hn)) g hn (fun r es h=>(ag _ _ r es h).2) (fun r es h=>(ag _ _ r es h).2) fun r a3 es es' q1 q2 q3=>by
   have m1:=(ag _ _ r a3 q1).1
   have m2:=(ag _ _ r es q2).1
   have e2:NF (NN base x.mask (NL base y.mask H1 Hn)) r=NF (NL base y.mask H1 Hn) r:=by
    unfold NF;rw [Na,QE base x.mask _ m1,<-Na]
   rw [e2]
   unfold NF at q3⊢
   rw [Na,QR base H1 y.mask Hn m2,<-Na]
   exact q3
  rw [key]
  simp only [RP]
 by_cases hR:(YP x.op&&Naq y.op)=true
 ·
  obtain ⟨X,aa⟩:=Bool.and_eq_true_iff.1 hR
  obtain ⟨nx,ox,ex⟩:=Nb7 X
  have Y:kind x.op=.r:=by rw [ex];rfl
  have Q:∀mp f args,x.op≠.call mp f args:=fun mp f args e=>by rw [ex] at e;cases e
  have e1:=Vr Z Y h1
  subst e1
  refine ⟨I,h2, ?_⟩
  have R:H1.length<=I.length:=Vs Z hy hl h2
  have O:∀{j:Nat},SC false (NF H1 j)=true->NF I j=NF H1 j:=fun {j} o=>by
   obtain ⟨ro,c,W⟩:=Ta o
   have L:j<H1.length:=(List.getElem?_eq_some_iff.1 (TR W (by intro e;cases e))).1
   unfold PG at h2
   split at h2
   case h_2=>cases h2
   rename_i v1 T g
   simp only [Option.some.injEq,Prod.mk.injEq] at h2
   obtain ⟨rfl,rfl⟩:=h2
   rw [PD] at R
   by_cases E:∃i∈y.mask,base+i=j
   ·have:=RG base H1 y.mask T E (by omega)
    unfold NF
    rw [Na,this]
    rfl
   ·have l:∀i∈y.mask,base+i≠j:=fun i hi e=>E ⟨i,hi,e⟩
    have ae:NF (NN base y.mask H1) j=NF H1 j:=by
     unfold NF
     rw [Na,QE base y.mask _ l,<-Na]
    have:=(by
     cases hyo:y.op<;>rw [hyo] at aa g<;>simp [Naq] at aa
     rw [NY (by intro mp f args e;cases e)] at g
     exact Ne2 g (by rw [ae];exact o):NF T j=NF (NN base y.mask H1) j)
    rw [ae] at this
    unfold NF at this⊢
    rw [Na,QR base H1 y.mask T l,<-Na]
    exact this
  have E:∀{j:Nat},SC false (NF (NN base x.mask H1) j)=true->NF (NN base x.mask I) j=NF (NN base x.mask H1) j:=fun {j} o=>by
   obtain ⟨ro,c,W⟩:=Ta o
   have L:j<H1.length:=by
    have:=(List.getElem?_eq_some_iff.1 (TR W (by intro e;cases e))).1
    rwa [OG] at this
   by_cases g:∃i∈x.mask,base+i=j
   ·have:=TQ base x.mask _ g L
    unfold NF at W
    rw [Na,this] at W
    cases W
   ·have l:∀i∈x.mask,base+i≠j:=fun i hi e=>g ⟨i,hi,e⟩
    have e1:NF (NN base x.mask H1) j=NF H1 j:=by
     unfold NF;rw [Na,QE base x.mask _ l,<-Na]
    have e2:NF (NN base x.mask I) j=NF I j:=by
     unfold NF;rw [Na,QE base x.mask _ l,<-Na]
    rw [e1] at o
    rw [e1,e2]
    exact O o
  unfold PG at h1⊢
  rw [NY Q] at h1⊢
  split at h1
  case h_2=>cases h1
  rename_i v1 T g
  simp only [Option.some.injEq,Prod.mk.injEq] at h1
  obtain ⟨rfl,_⟩:=h1
  have:=V8 Y Q g
  subst this
  rw [ex] at g⊢
  rw [Nal E g]
  simp only [RP]
 have J:((((conflict (kind x.op) (kind y.op)=false\/(isL x.op=true/\isLoad y.op=true))\/(isRead x.op=true/\Nth y.op=true))\/(isLoad x.op=true/\isMaps y.op=true))\/isLR x.op y.op=true)\/isO x.op y.op=true:=by
  have:=hs.calm
  simpa [AM.calm,hE,hR] using this
 rcases J with J | hO
 case inr=>
  obtain ⟨n,ox,t,m,op,oy,ex,ey⟩:=Nrb hO
  have Y:kind x.op=.r:=by rw [ex];rfl
  have ky:kind y.op=.w:=by rw [ey];rfl
  have Q:∀mp f args,x.op≠.call mp f args:=fun mp f args e=>by rw [ex] at e;cases e
  have aw:∀mp f args,y.op≠.call mp f args:=fun mp f args e=>by rw [ey] at e;cases e
  have e1:=Vr Z Y h1
  subst e1
  refine ⟨I,h2, ?_⟩
  have O:∀q,ev fr (.tmp t)=.pointer (some q)->∀{j:Nat} {ro:Bool} {c:List Value},j≠q.block->NF H1 j=.cells ro c->NF I j=.cells ro c:=fun q hq {j ro c} au o=>by
   have L:j<H1.length:=(List.getElem?_eq_some_iff.1 (TR o (by intro e;cases e))).1
   have R:H1.length<=I.length:=Vs Z hy hl h2
   unfold PG at h2
   rw [NY aw] at h2
   split at h2
   case h_2=>cases h2
   rename_i v1 T g
   simp only [Option.some.injEq,Prod.mk.injEq] at h2
   obtain ⟨rfl,rfl⟩:=h2
   rw [PD] at R
   by_cases E:∃i∈y.mask,base+i=j
   ·have:=RG base H1 y.mask T E (by omega)
    unfold NF
    rw [Na,this]
    exact o
   ·have l:∀i∈y.mask,base+i≠j:=fun i hi e=>E ⟨i,hi,e⟩
    rw [ey] at g
    have hk:=Ne1 g q hq au
    have e2:NF (NN base y.mask H1) j=NF H1 j:=by
     unfold NF;rw [Na,QE base y.mask _ l,<-Na]
    rw [e2,o] at hk
    unfold NF at hk⊢
    rw [Na,QR base H1 y.mask T l,<-Na]
    exact hk
  have E:∀q,ev fr (.tmp t)=.pointer (some q)->∀{j:Nat} {ro:Bool} {c:List Value},j≠q.block->NF (NN base x.mask H1) j=.cells ro c->NF (NN base x.mask I) j=.cells ro c:=fun q hq {j ro c} au o=>by
   have L:j<H1.length:=by
    have:=(List.getElem?_eq_some_iff.1 (TR o (by intro e;cases e))).1
    rwa [OG] at this
   by_cases g:∃i∈x.mask,base+i=j
   ·have:=TQ base x.mask _ g L
    unfold NF at o
    rw [Na,this] at o
    cases o
   ·have l:∀i∈x.mask,base+i≠j:=fun i hi e=>g ⟨i,hi,e⟩
    have e1:NF (NN base x.mask H1) j=NF H1 j:=by
     unfold NF;rw [Na,QE base x.mask _ l,<-Na]
    have e2:NF (NN base x.mask I) j=NF I j:=by
     unfold NF;rw [Na,QE base x.mask _ l,<-Na]
    rw [e1] at o
    rw [e2]
    exact O q hq au o
  unfold PG at h1⊢
  rw [NY Q] at h1⊢
  split at h1
  case h_2=>cases h1
  rename_i v1 T g
  simp only [Option.some.injEq,Prod.mk.injEq] at h1
  obtain ⟨rfl,_⟩:=h1
  have:=V8 Y Q g
  subst this
  rw [ex] at g⊢
  rw [Ni0 E g]
  simp only [RP]
 rcases J with J | hlr
 case inr=>
  obtain ⟨mm,nx,ox,fy,bb,ex,ey⟩:=Nmh hlr
  have Y:kind x.op=.r:=by rw [ex];rfl
  have Q:∀mp f args,x.op≠.call mp f args:=fun mp f args e=>by rw [ex] at e;cases e
  have e1:=Vr Z Y h1
  subst e1
  refine ⟨I,h2, ?_⟩
  have R:H1.length<=I.length:=Vs Z hy hl h2
  have O:∀{j:Nat},SC mm (NF H1 j)=true->NF I j=NF H1 j:=fun {j} o=>by
   obtain ⟨ro,c,W⟩:=Ta o
   have L:j<H1.length:=(List.getElem?_eq_some_iff.1 (TR W (by intro e;cases e))).1
   unfold PG at h2
   split at h2
   case h_2=>cases h2
   rename_i v1 T g
   simp only [Option.some.injEq,Prod.mk.injEq] at h2
   obtain ⟨rfl,rfl⟩:=h2
   rw [PD] at R
   by_cases E:∃i∈y.mask,base+i=j
   ·have:=RG base H1 y.mask T E (by omega)
    unfold NF
    rw [Na,this]
    rfl
   ·have l:∀i∈y.mask,base+i≠j:=fun i hi e=>E ⟨i,hi,e⟩
    have ae:NF (NN base y.mask H1) j=NF H1 j:=by
     unfold NF
     rw [Na,QE base y.mask _ l,<-Na]
    have aq:Vj mm (NN base y.mask H1) T=true:=by
     rw [ey] at g
     simp only [Rj] at g
     split at g
     case h_2=>cases g
     exact Z4 g
    have:=Nds aq (by rw [ae];exact o)
    rw [ae] at this
    unfold NF at this⊢
    rw [Na,QR base H1 y.mask T l,<-Na]
    exact this
  have E:∀{j:Nat},SC mm (NF (NN base x.mask H1) j)=true->NF (NN base x.mask I) j=NF (NN base x.mask H1) j:=fun {j} o=>by
   obtain ⟨ro,c,W⟩:=Ta o
   have L:j<H1.length:=by
    have:=(List.getElem?_eq_some_iff.1 (TR W (by intro e;cases e))).1
    rwa [OG] at this
   by_cases g:∃i∈x.mask,base+i=j
   ·have:=TQ base x.mask _ g L
    unfold NF at W
    rw [Na,this] at W
    cases W
   ·have l:∀i∈x.mask,base+i≠j:=fun i hi e=>g ⟨i,hi,e⟩
    have e1:NF (NN base x.mask H1) j=NF H1 j:=by
     unfold NF;rw [Na,QE base x.mask _ l,<-Na]
    have e2:NF (NN base x.mask I) j=NF I j:=by
     unfold NF;rw [Na,QE base x.mask _ l,<-Na]
    rw [e1] at o
    rw [e1,e2]
    exact O o
  unfold PG at h1⊢
  rw [NY Q] at h1⊢
  split at h1
  case h_2=>cases h1
  rename_i v1 T g
  simp only [Option.some.injEq,Prod.mk.injEq] at h1
  obtain ⟨rfl,_⟩:=h1
  have:=V8 Y Q g
  subst this
  rw [ex] at g⊢
  rw [Nal E g]
  simp only [RP]
 rcases J with J | ⟨X,aa⟩
 case inr=>
  have Y:kind x.op=.r:=by cases hx:x.op<;>rw [hx] at X<;>simp [isLoad] at X<;>rfl
  have Q:∀mp f args,x.op≠.call mp f args:=fun mp f args e=>by rw [e] at X;simp [isLoad] at X
  have e1:=Vr Z Y h1
  subst e1
  refine ⟨I,h2, ?_⟩
  have R:H1.length<=I.length:=Vs Z hy hl h2
  have O:∀{j:Nat} {ro:Bool} {c:List Value},NF H1 j=.cells ro c->NF I j=.cells ro c:=fun {j ro c} o=>by
   have L:j<H1.length:=(List.getElem?_eq_some_iff.1 (TR o (by intro e;cases e))).1
   unfold PG at h2
   split at h2
   case h_2=>cases h2
   rename_i v1 T g
   simp only [Option.some.injEq,Prod.mk.injEq] at h2
   obtain ⟨rfl,rfl⟩:=h2
   rw [PD] at R
   by_cases E:∃i∈y.mask,base+i=j
   ·have:=RG base H1 y.mask T E (by omega)
    unfold NF
    rw [Na,this]
    exact o
   ·have l:∀i∈y.mask,base+i≠j:=fun i hi e=>E ⟨i,hi,e⟩
    have ae:NF (NN base y.mask H1) j=.cells ro c:=by
     unfold NF
     rw [Na,QE base y.mask _ l,<-Na]
     exact o
    have aq:Uz (NN base y.mask H1) T=true:=by
     cases hyo:y.op<;>rw [hyo] at aa g<;>simp [isMaps] at aa
     rename_i mp f args
     cases mp<;>simp at aa
     simp only [Rj] at g
     split at g
     case h_2=>cases g
     exact (SN g).2 rfl
    have:=Ncc aq ae
    unfold NF at this⊢
    rw [Na,QR base H1 y.mask T l,<-Na]
    exact this
  have E:∀{j:Nat} {ro:Bool} {c:List Value},NF (NN base x.mask H1) j=.cells ro c->NF (NN base x.mask I) j=.cells ro c:=fun {j ro c} o=>by
   have L:j<H1.length:=by
    have:=(List.getElem?_eq_some_iff.1 (TR o (by intro e;cases e))).1
    rwa [OG] at this
   by_cases g:∃i∈x.mask,base+i=j
   ·have:=TQ base x.mask _ g L
    unfold NF at o
    rw [Na,this] at o
    cases o
   ·have l:∀i∈x.mask,base+i≠j:=fun i hi e=>g ⟨i,hi,e⟩
    have e1:NF (NN base x.mask H1) j=NF H1 j:=by
     unfold NF;rw [Na,QE base x.mask _ l,<-Na]
    have e2:NF (NN base x.mask I) j=NF I j:=by
     unfold NF;rw [Na,QE base x.mask _ l,<-Na]
    rw [e1] at o
    rw [e2]
    exact O o
  unfold PG at h1⊢
  rw [NY Q] at h1⊢
  split at h1
  case h_2=>cases h1
  rename_i v1 T g
  simp only [Option.some.injEq,Prod.mk.injEq] at h1
  obtain ⟨rfl,_⟩:=h1
  have:=V8 Y Q g
  subst this
  rw [Nix X E g]
  simp only [RP]
 rcases J with J | ⟨X,aa⟩
 case inr=>
  have Y:kind x.op=.r:=by cases hx:x.op<;>rw [hx] at X<;>simp [isRead] at X<;>rfl
  have Q:∀mp f args,x.op≠.call mp f args:=fun mp f args e=>by rw [e] at X;simp [isRead] at X
  have e1:=Vr Z Y h1
  subst e1
  refine ⟨I,h2, ?_⟩
  have R:H1.length<=I.length:=Vs Z hy hl h2
  have O:∀j,j<H1.length->I[j]? = H1[j]?:=fun j o=>by
   unfold PG at h2
   split at h2
   case h_2=>cases h2
   rename_i v1 T g
   simp only [Option.some.injEq,Prod.mk.injEq] at h2
   obtain ⟨rfl,rfl⟩:=h2
   rw [PD] at R
   have hk:∀j,j<(NN base y.mask H1).length->T[j]? = (NN base y.mask H1)[j]?:=by
    cases hyo:y.op<;>rw [hyo] at aa g<;>simp [Nth] at aa
    rename_i mp f args
    cases mp<;>simp at aa
    simp only [Rj] at g
    split at g
    case h_2=>cases g
    exact Z.keep _ _ _ _ _ _ _ (SN g).1 (Nd _)
   by_cases E:∃i∈y.mask,base+i=j
   ·rw [RG base H1 y.mask T E (by omega),We o]
   ·have l:∀i∈y.mask,base+i≠j:=fun i hi e=>E ⟨i,hi,e⟩
    rw [QR base H1 y.mask T l,hk j (by rw [OG];exact o),QE base y.mask _ l]
  have E:∀(j:Nat) b,(NN base x.mask H1)[j]? = some b->(NN base x.mask I)[j]? = some b:=fun j b o=>by
   have L:j<H1.length:=by
    have:=(List.getElem?_eq_some_iff.1 o).1
    rwa [OG] at this
   by_cases g:∃i∈x.mask,base+i=j
   ·rw [TQ base x.mask _ g L] at o
    rw [TQ base x.mask _ g (by omega)];exact o
   ·have l:∀i∈x.mask,base+i≠j:=fun i hi e=>g ⟨i,hi,e⟩
    rw [QE base x.mask _ l] at o⊢
    rw [O j L];exact o
  unfold PG at h1⊢
  rw [NY Q] at h1⊢
  split at h1
  case h_2=>cases h1
  rename_i v1 T g
  simp only [Option.some.injEq,Prod.mk.injEq] at h1
  obtain ⟨rfl,_⟩:=h1
  have:=V8 Y Q g
  subst this
  rw [Nle X E g]
  simp only [RP]
 rcases J with J | ⟨hL,ah⟩
 case inr=>
  obtain ⟨Y,mx,_⟩:=M4 hL
  have ky:kind y.op=.r:=by cases hy:y.op<;>rw [hy] at ah<;>simp [isLoad] at ah<;>rfl
  have e2:=Vr Z ky h2
  subst e2
  refine ⟨H, ?_,h1⟩
  obtain ⟨d,hd⟩:=hx.dest mx
  have a4:=hs.maskY (.inl ky) d hd
  have hk:∀(j:Nat) b,b≠.dead->(NN base y.mask I)[j]? = some b->(NN base y.mask H)[j]? = some b:=by
   intro j b hb o
   have R:I.length=H.length:=by
    unfold PG at h1
    rw [NY (WT (.inr (.inr Y))),hd] at h1
    simp only [Ns] at h1
    split at h1
    case h_2=>cases h1
    rename_i v1 T g
    cases h1
    rw [PD,Wd Y g,OG]
   have L:j<I.length:=by
    have:=(List.getElem?_eq_some_iff.1 o).1
    rwa [OG] at this
   by_cases g:∃i∈y.mask,base+i=j
   ·rw [TQ base y.mask I g L] at o
    cases o;exact absurd rfl hb
   ·have l:∀i∈y.mask,base+i≠j:=fun i hi e=>g ⟨i,hi,e⟩
    rw [QE base y.mask _ l] at o⊢
    unfold PG at h1
    rw [NY (WT (.inr (.inr Y))),hd] at h1
    simp only [Ns] at h1
    split at h1
    case h_2=>cases h1
    rename_i v1 T E
    cases h1
    by_cases a0:∃i∈x.mask,base+i=j
    ·rw [RG base H x.mask T a0 (by rwa [PD] at L)] at o
     rw [<-o,We (by omega)]
    ·have ao:∀i∈x.mask,base+i≠j:=fun i hi e=>a0 ⟨i,hi,e⟩
     rw [QR base H x.mask T ao] at o
     rcases Nmg hL E j (fun e=>l d a4 e.symm) with h | h
     ·rw [h,QE base x.mask _ ao] at o;exact o
     ·rw [h] at o;cases o;exact absurd rfl hb
  have aj:∀{j:Nat} {ro:Bool} {c:List Value},NF (NN base y.mask I) j=.cells ro c->NF (NN base y.mask H) j=.cells ro c:=fun {j ro c} h=>by
   have:=hk j _ (by intro e;cases e) (TR h (by intro e;cases e))
   unfold NF;rw [Na,this];rfl
  have ay:∀mp f args,y.op≠.call mp f args:=fun mp f args e=>by rw [e] at ah;simp [isLoad] at ah
  have az:NH lim (y.dest.map (base+·)) y.op (ev fr) (NN base y.mask H)=some (u,NN base y.mask H):=by
   unfold PG at h2
   rw [NY ay] at h2
   split at h2
   case h_2=>cases h2
   rename_i v1 T g
   simp only [Option.some.injEq,Prod.mk.injEq] at h2
   obtain ⟨rfl,_⟩:=h2
   cases hyo:y.op<;>rw [hyo] at ah g<;>simp [isLoad] at ah
   ·simp only [NH] at g⊢
    split at g
    ·rename_i p hp
     simp only [Nc,Prod.mk.injEq] at g
     obtain ⟨z,hz,rfl,_⟩:=g
     have:AM.loadCell (NN base y.mask H) p=some z:=by
      unfold AM.loadCell at hz⊢
      split at hz
      ·rename_i hb;rw [aj hb];exact hz
      ·cases hz
     rw [this];rfl
    ·cases g
   ·rename_i nn oa
    simp only [NH] at g⊢
    split at g
    ·rename_i p hp
     simp only [Nc,Prod.mk.injEq] at g
     obtain ⟨z,hz,rfl,_⟩:=g
     have:AM.loadCells (NN base y.mask H) p nn=some z:=by
      unfold AM.loadCells at hz⊢
      split at hz
      ·rename_i hb;rw [aj hb];exact hz
      ·cases hz
     rw [this];rfl
    ·cases g
  unfold PG
  rw [NY ay,az]
  simp only [RP]
 by_cases a2:kind x.op=.s
 ·obtain ⟨r,hr⟩:=hx.home (UE a2)
  obtain ⟨b,rfl,F⟩:=Njq hx a2 hr h1
  by_cases al:kind y.op=.s
  ·obtain ⟨r',P⟩:=hy.home (UE al)
   obtain ⟨b',rfl,S⟩:=Njq hy al P h2
   have ab:r≠r':=fun e=>hs.dests r hr (by rw [P,e])
   exact ⟨_,S H (Va (by omega)).symm,by rw [F _ (Va (by omega)),List.set_comm _ _ (by omega)]⟩
  by_cases ad:kind y.op=.a
  ·obtain ⟨r',P⟩:=hy.dest (Xu ad)
   obtain ⟨b',rfl,S⟩:=Nbf hy ad P h2
   have ab:r≠r':=fun e=>hs.dests r hr (by rw [P,e])
   exact ⟨_,S H,by rw [F _ (Va (by omega)),List.set_comm _ _ (by omega)]⟩
  ·have ky:kind y.op=.r\/kind y.op=.w\/kind y.op=.n\/kind y.op=.c:=by
    cases hk:kind y.op<;>simp_all
   rw [Ud Z hy (hs.maskY ky r hr) _ _ _ hl (ac r (.inl hr))] at h2
   cases hb:PG C lim base y (ev fr) H with
   | none=>rw [hb] at h2;cases h2
   | some p=>
     obtain ⟨u',V⟩:=p
     rw [hb] at h2
     cases h2
     exact ⟨V,rfl,F V (Nbe Z hy (hs.maskY ky r hr) hl (ac r (.inl hr)) hb)⟩
 by_cases al:kind y.op=.s
 ·obtain ⟨r,hr⟩:=hy.home (UE al)
  obtain ⟨b,rfl,F⟩:=Njq hy al hr h2
  by_cases ak:kind x.op=.a
  ·obtain ⟨r',P⟩:=hx.dest (Xu ak)
   obtain ⟨b',rfl,S⟩:=Nbf hx ak P h1
   have ab:r'≠r:=fun e=>hs.dests r' P (by rw [hr,e])
   exact ⟨_,F H (Va (by omega)).symm,by rw [S,List.set_comm _ _ (by omega)]⟩
  ·have Y:kind x.op=.r\/kind x.op=.w\/kind x.op=.n\/kind x.op=.c:=by
    cases hk:kind x.op<;>simp_all
   exact ⟨_,F H (Nbe Z hx (hs.maskX Y r hr) hl (ac r (.inr hr)) h1).symm,by rw [Ud Z hx (hs.maskX Y r hr) _ _ _ hl (ac r (.inr hr)),h1];rfl⟩
 by_cases ak:kind x.op=.a
 ·obtain ⟨r,hr⟩:=hx.dest (Xu ak)
  obtain ⟨b,rfl,F⟩:=Nbf hx ak hr h1
  by_cases ad:kind y.op=.a
  ·obtain ⟨r',P⟩:=hy.dest (Xu ad)
   obtain ⟨b',rfl,S⟩:=Nbf hy ad P h2
   have ab:r≠r':=fun e=>hs.dests r hr (by rw [P,e])
   exact ⟨_,S H,by rw [F,List.set_comm _ _ (by omega)]⟩
  ·have ky:kind y.op=.r\/kind y.op=.w\/kind y.op=.n\/kind y.op=.c:=by
    cases hk:kind y.op<;>simp_all [conflict]
   rw [Ud Z hy (hs.maskY ky r hr) _ _ _ hl (ac r (.inl hr))] at h2
   cases hb:PG C lim base y (ev fr) H with
   | none=>rw [hb] at h2;cases h2
   | some p=>
     obtain ⟨u',V⟩:=p
     rw [hb] at h2
     cases h2
     exact ⟨V,rfl,F V⟩
 by_cases ad:kind y.op=.a
 ·obtain ⟨r,hr⟩:=hy.dest (Xu ad)
  obtain ⟨b,rfl,F⟩:=Nbf hy ad hr h2
  have Y:kind x.op=.r\/kind x.op=.w\/kind x.op=.n\/kind x.op=.c:=by
   cases hk:kind x.op<;>simp_all [conflict]
  exact ⟨_,F H,by rw [Ud Z hx (hs.maskX Y r hr) _ _ _ hl (ac r (.inr hr)),h1];rfl⟩
 have an:(kind x.op=.r\/kind x.op=.n)/\(kind y.op=.r\/kind y.op=.n):=by
  cases hk:kind x.op<;>cases hk':kind y.op<;>simp_all [conflict]
 by_cases av:kind x.op=.n\/kind y.op=.n
 ·have sx:H1=H\/∃r b,x.dest=some r/\H1=H.set (base+r) b:=by
   rcases an.1 with k | k
   ·exact .inl (Vr Z k h1)
   ·obtain ⟨r,hr,h | ⟨b,h⟩⟩:=Nr7 hx k h1
    ·exact .inl h
    ·exact .inr ⟨r,b,hr,h⟩
  have a5:kind x.op=.r\/kind x.op=.w\/kind x.op=.n\/kind x.op=.c:=by rcases an.1 with k | k<;>simp [k]
  have a8:kind y.op=.r\/kind y.op=.w\/kind y.op=.n\/kind y.op=.c:=by rcases an.2 with k | k<;>simp [k]
  have sy:∀{A B:NB} {z:Value},PG C lim base y (ev fr) A=some (z,B)->B=A\/∃r b,y.dest=some r/\B=A.set (base+r) b:=by
   intro A B z h
   rcases an.2 with k | k
   ·exact .inl (Vr Z k h)
   ·obtain ⟨r,hr,h | ⟨b,h⟩⟩:=Nr7 hy k h
    ·exact .inl h
    ·exact .inr ⟨r,b,hr,h⟩
  have ax:∀{u:Value} {K:NB},PG C lim base y (ev fr) H=some (u,K)->∃K2,PG C lim base x (ev fr) K=some (v,K2)/\(∀r b,y.dest=some r->K=H.set (base+r) b->K2=H1.set (base+r) b)/\(K=H->K2=H1):=by
   intro u K hK
   rcases sy hK with rfl | ⟨r,b,hr,rfl⟩
   ·refine ⟨H1,h1,fun r b hr hb=>?_,fun _=>rfl⟩
    rcases sx with rfl | ⟨r',b',P,rfl⟩
    ·exact hb
    ·have ab:r'≠r:=fun e=>hs.dests r' P (by rw [hr,e])
     rw [List.set_comm _ _ (by omega),<-hb]
   ·refine ⟨H1.set (base+r) b,by rw [Ud Z hx (hs.maskX a5 r hr) _ _ _ hl (ac r (.inr hr)),h1];rfl,fun r' b' P hb=>?_,fun hb=>?_⟩
    ·rw [hr] at P;cases P
     rcases sx with rfl | ⟨r2,b2,U,rfl⟩
     ·exact hb
     ·have ab:r2≠r:=fun e=>hs.dests r2 U (by rw [hr,e])
      rw [List.set_comm _ _ (by omega),List.set_comm _ _ (by omega:base+r2≠base+r),hb]
    ·rcases sx with rfl | ⟨r2,b2,U,rfl⟩
     ·exact hb
     ·have ab:r2≠r:=fun e=>hs.dests r2 U (by rw [hr,e])
      rw [List.set_comm _ _ (by omega),hb]
  have ba:∃K,PG C lim base y (ev fr) H=some (u,K)/\(∀r b,x.dest=some r->H1=H.set (base+r) b->I=K.set (base+r) b)/\(H1=H->I=K):=by
   rcases sx with rfl | ⟨r,b,hr,rfl⟩
   ·refine ⟨I,h2,fun r b hr hb=>?_,fun _=>rfl⟩
    rcases sy h2 with rfl | ⟨r2,b2,U,rfl⟩
    ·exact hb
    ·have ab:r≠r2:=fun e=>hs.dests r hr (by rw [U,e])
     rw [List.set_comm _ _ (by omega),<-hb]
   ·rw [Ud Z hy (hs.maskY a8 r hr) _ _ _ hl (ac r (.inl hr))] at h2
    cases hb:PG C lim base y (ev fr) H with
    | none=>rw [hb] at h2;cases h2
    | some p=>
      obtain ⟨u',K⟩:=p
      rw [hb] at h2
      cases h2
      refine ⟨K,rfl,fun r' b' P ai=>?_,fun ai=>?_⟩
      ·rw [hr] at P;cases P
       rcases sy hb with rfl | ⟨r2,b2,U,rfl⟩
       ·exact ai
       ·have ab:r≠r2:=fun e=>hs.dests r hr (by rw [U,e])
        rw [List.set_comm _ _ (by omega),List.set_comm _ _ (by omega:base+r2≠base+r),ai]
      ·rcases sy hb with rfl | ⟨r2,b2,U,rfl⟩
       ·exact ai
       ·have ab:r≠r2:=fun e=>hs.dests r hr (by rw [U,e])
        rw [List.set_comm _ _ (by omega),ai]
  obtain ⟨K,k1,k2,k3⟩:=ba
  obtain ⟨K2,m1,m2,m3⟩:=ax k1
  refine ⟨K,k1, ?_⟩
  rw [m1]
  congr 2
  rcases sx with rfl | ⟨r,b,hr,hb⟩
  ·rw [k3 rfl]
   rcases sy k1 with e | ⟨r2,b2,U,e⟩
   ·rw [m3 e,e]
   ·rw [m2 r2 b2 U e,e]
  ·rw [k2 r b hr hb]
   rcases sy k1 with e | ⟨r2,b2,U,e⟩
   ·rw [m3 e,hb,e]
   ·have ab:r≠r2:=fun e=>hs.dests r hr (by rw [U,e])
    rw [m2 r2 b2 U e,hb,e,List.set_comm _ _ (by omega)]
 have kr:kind x.op=.r/\kind y.op=.r:=by
  rcases an with ⟨k1 | k1,k2 | k2⟩
  ·exact ⟨k1,k2⟩
  ·exact absurd (.inr k2) av
  ·exact absurd (.inl k1) av
  ·exact absurd (.inl k1) av
 have e1:=Vr Z kr.1 h1
 subst e1
 have e2:=Vr Z kr.2 h2
 subst e2
 exact ⟨_,h2,h1⟩
theorem Nrd (w:CallOk0 C) {x y:AIns} (z:Planned x) (A:Planned y) (n:Sep x y) {fr fr1 f:Nat->Value} {H H1 l:NB} (hl:lim<=H.length) (k:∀r,x.dest=some r\/y.dest=some r->base+r<H.length) (h1:Tv C N lim (some base) x fr H=some (fr1,H1)) (h2:Tv C N lim (some base) y fr1 H1=some (f,l)) :
  ∃b c,Tv C N lim (some base) y fr H=some (b,c)/\Tv C N lim (some base) x b c=some (f,l):=by
 have a:=n.apart
 unfold Z9 at a
 have a1:∀d,x.dst=some d->d∉y.looks:=fun d e=>by rw [e] at a;simp at a;exact a.1.1
 have q:∀d,x.dst=some d->y.dst≠some d:=fun d e=>by rw [e] at a;simp at a;exact a.1.2
 have s:∀d,y.dst=some d->d∉x.looks:=fun d e=>by rw [e] at a;simp at a;exact a.2
 unfold Tv at h1 h2
 cases hv:SL C N lim (some base) x fr H with
 | none=>rw [hv] at h1;cases h1
 | some p=>
 obtain ⟨v,o⟩:=p
 rw [hv] at h1
 simp only [Nc,Prod.mk.injEq] at h1
 obtain ⟨D,g,rfl,rfl⟩:=h1
 rw [Nas g a1] at h2
 cases hu:SL C N lim (some base) y fr o with
 | none=>rw [hu] at h2;cases h2
 | some p=>
 obtain ⟨u,B⟩:=p
 rw [hu] at h2
 simp only [Nc,Prod.mk.injEq] at h2
 obtain ⟨E,j,rfl,rfl⟩:=h2
 obtain ⟨h,e1,e2⟩:=Nk1 w z A n hl k hv hu
 obtain ⟨i,m,t⟩:=put_comm g j q
 refine ⟨i,h,by simp only [Tv,e1,m];rfl, ?_⟩
 unfold Tv
 rw [Nas m s,e2]
 simp [t]
def Xg (C:TH) (N lim:Nat) (base:Option Nat):List AIns->(Nat->Value)->NB->Option ((Nat->Value)×NB)
 | [],fr,H=>some (fr,H)
 | i::l,fr,H=>match Tv C N lim base i fr H with
   | some (fr',H')=>Xg C N lim base l fr' H'
   | none=>none
theorem VI {b:Option Nat} {i:AIns} {l:List AIns} {fr:Nat->Value} {H:NB} {r} (h:Xg C N lim b (i::l) fr H=some r):∃fr' H',Tv C N lim b i fr H=some (fr',H')/\Xg C N lim b l fr' H'=some r:=by
 simp only [Xg] at h
 split at h
 ·rename_i fr' H' h1;exact ⟨fr',H',h1,h⟩
 ·cases h
theorem Ntk (a:CallOk0 C) {i:AIns} (hp:Planned i) {fr fr':Nat->Value} {H H':NB} (hl:lim<=H.length) (h:Tv C N lim (some base) i fr H=some (fr',H')):H.length<=H'.length:=by
 unfold Tv at h
 cases hv:SL C N lim (some base) i fr H with
 | none=>rw [hv] at h;cases h
 | some p=>
   obtain ⟨v,K⟩:=p
   rw [hv] at h
   simp only [Nc,Prod.mk.injEq] at h
   obtain ⟨f,c,rfl,rfl⟩:=h
   rw [Sw] at hv
   cases hw:RF N fr i.guard with
   | none=>rw [hw] at hv;cases hv
   | some b=>
     rw [hw] at hv
     cases b with
     | false=>cases hv;exact Nd _
     | true=>exact Vs a hp hl hv
theorem Nr5 (d:CallOk0 C) {x:AIns} (g:Planned x) (B:List AIns):∀(A:List AIns) (fr:Nat->Value) (H:NB) (r),lim<=H.length->(∀r,x.dest=some r->base+r<H.length)->(∀a∈A,(Planned a/\Sep a x)/\∀r,a.dest=some r->base+r<H.length)->Xg C N lim (some base) (A++x::B) fr H=some r->
  Xg C N lim (some base) (x::(A++B)) fr H=some r
 | [],fr,H,r,_,_,_,h=>h
 | a::A,fr,H,r,hl,c,hA,h=>by
   obtain ⟨fr1,H1,h1,h2⟩:=VI h
   obtain ⟨⟨i,o⟩,k⟩:=hA a Oy
   have f:=Ntk d i hl h1
   have ih:=Nr5 d g B A fr1 H1 r (by omega) (fun r hr=>by have:=c r hr;omega) (fun b hb=>⟨(hA b (Od _ hb)).1,fun r hr=>by have:=(hA b (Od _ hb)).2 r hr;omega⟩) h2
   obtain ⟨l,p,m,n⟩:=VI ih
   obtain ⟨e,j,e1,e2⟩:=Nrd d i g o hl (fun r hr=>by rcases hr with hr | hr;exact k r hr;exact c r hr) h1 m
   simp only [N1,Xg,e1,e2]
   exact n
end
structure Grow (lim:Nat) (H H':NB):Prop where
 new:∀(j:Nat) b,H'[j]? = some b->alive b=true->H[j]? = some b\/(owned b=true/\lim<=j)
 keep:∀j,j<lim->H'[j]? = H[j]?
instance {lim:Nat} {H H':NB}:CoeFun (Grow lim H H') (fun _=>∀(j:Nat) b,H'[j]? = some b->alive b=true->H[j]? = some b\/(owned b=true/\lim<=j)):=⟨Grow.new⟩
theorem Grow.refl (lim:Nat) (H:NB):Grow lim H H:=⟨fun _ _ h _=>.inl h,fun _ _=>rfl⟩
theorem Grow.trans {lim:Nat} {A B C:NB} (h:Grow lim A B) (k:Grow lim B C):Grow lim A C:=⟨fun j b hb a=>by
 rcases k.new j b hb a with h1 | h1
 ·exact h.new j b h1 a
 ·exact .inr h1,fun j c=>(k.keep j c).trans (h.keep j c)⟩
theorem Grow.weaken {lim lim':Nat} {A B:NB} (h:Grow lim' A B) (hl:lim<=lim'):Grow lim A B:=⟨fun j b hb a=>(h.new j b hb a).imp id fun h=>⟨h.1,by omega⟩,fun j c=>h.keep j (by omega)⟩
theorem Grow.set {lim:Nat} {H:NB} {i:Nat} {b:Blk} (hl:lim<=i) (hb:alive b=true->owned b=true):Grow lim H (H.set i b):=⟨fun j c hc a=>by
 rw [N3] at hc
 split at hc
 ·rename_i e
  split at hc
  ·cases hc;exact .inr ⟨hb a,e▸hl⟩
  ·cases hc
 ·exact .inl hc,fun j d=>by rw [N3,Ni (by omega)]⟩
theorem Grow.app {lim:Nat} {H X:NB} (hl:lim<=H.length) (d:∀b∈X,alive b=true->owned b=true):Grow lim H (H++X):=⟨fun j c hc e=>by
 by_cases a:j<H.length
 ·rw [Ny a] at hc;exact .inl hc
 ·rw [N0 (by omega)] at hc
  exact .inr ⟨d c (Oa hc) e,by omega⟩,fun j a=>Ny (by omega)⟩
theorem Grow.place {lim:Nat} {H:NB} {dest:Option Nat} {b:Blk} (hb:owned b=true) (a:∀d,dest=some d->lim<=d) (hl:lim<=H.length):Grow lim H (place dest b H).2:=by
 cases dest with
 | some d=>exact Grow.set (a d rfl) fun _=>hb
 | none=>exact Grow.app hl fun c hc _=>by simp at hc;subst hc;exact hb
theorem Grow.dead {lim:Nat} {H:NB} (hl:lim<=H.length) (n:Nat):Grow lim H (H++List.replicate n .dead):=
 Grow.app hl fun b hb a=>by rw [(List.mem_replicate.1 hb).2] at a;simp [alive] at a
theorem SY {lim:Nat} {H H':NB} {a:Addr} {vs:List Value} (h:storeAt lim H a vs=some H'):Grow lim H H':=by
 unfold storeAt at h
 split at h
 ·split at h
  ·rename_i hc;cases h;exact Grow.set hc.1 fun _=>rfl
  ·cases h
 ·cases h
theorem Nbj {o:AOp} (i:isL o=false) {lim:Nat} {dest:Option Nat} {ρ:Operand->Value} {H H':NB} {v:Value} (hn:kind o≠.n) (h:NH lim dest o ρ H=some (v,H')) (g:∀d,dest=some d->lim<=d) (hl:lim<=H.length):Grow lim H H':=by
 cases hk:kind o with
 | n=>exact absurd hk hn
 | p=>rw [(Nq6 hk h).1];exact Grow.refl _ _
 | r=>
   by_cases hc:∃mp f args,o=.call mp f args
   ·obtain ⟨mp,f,args,rfl⟩:=hc;simp [NH] at h
   ·rw [V8 hk (fun mp f args e=>hc ⟨mp,f,args,e⟩) h];exact Grow.refl _ _
 | c=>
   cases o<;>simp [kind] at hk
   simp [NH] at h
 | a=>
   cases o<;>simp [kind] at hk<;>simp only [NH] at h
   case alloc=>cases h;exact Grow.place (b:=.cells false _) rfl g hl
   case box=>
    split at h
    case isFalse=>cases h
    cases h;exact Grow.place (b:=.cells false _) rfl g hl
   case buildSlice=>
    split at h
    case h_2=>cases h
    cases h;exact Grow.place (b:=.cells false _) rfl g hl
   case makeSlice=>
    split at h
    case h_2=>cases h
    split at h
    case isFalse=>cases h
    cases h;exact Grow.place (b:=.cells false _) rfl g hl
   case growNil=>
    split at h
    case h_2=>cases h
    split at h
    case isFalse=>cases h
    cases h;exact Grow.place (b:=.cells false _) rfl g hl
   case makeMap=>
    split at h
    case h_2=>cases h
    cases h;exact Grow.place (b:=.map []) rfl g hl
   case call mp f args=>split at hk<;>cases hk
 | s=>
   have j:=UE hk
   cases o<;>simp [X8] at j
   rename_i n a x
   have h':=V5 h
   simp only [WG,NH] at h'
   split at h'
   ·split at h'
    ·simp only [Nc,Prod.mk.injEq] at h';obtain ⟨_,h1,_,rfl⟩:=h';exact SY h1
    ·cases h'
   ·cases h'
 | w=>
   cases o<;>simp [kind] at hk<;>simp only [NH] at h
   case store=>
    split at h
    ·split at h
     ·simp only [Nc,Prod.mk.injEq] at h;obtain ⟨_,h1,_,rfl⟩:=h;exact SY h1
     ·cases h
    ·cases h
   case storeN=>
    split at h
    ·split at h
     ·simp only [Nc,Prod.mk.injEq] at h;obtain ⟨_,h1,_,rfl⟩:=h;exact SY h1
     ·cases h
    ·cases h
   case storeO=>
    split at h
    ·split at h
     ·simp only [Nc,Prod.mk.injEq] at h;obtain ⟨_,h1,_,rfl⟩:=h;exact SY h1
     ·cases h
    ·cases h
   case append=>
    unfold OH at h
    split at h
    case h_2=>cases h
    split at h
    ·cases h
    split at h
    ·cases h;exact Grow.refl _ _
    split at h
    ·split at h
     ·cases h;exact Grow.place (b:=.cells false _) rfl g hl
     ·cases h
    ·split at h
     ·cases h
     split at h
     ·split at h
      ·split at h
       ·cases h
        exact (Grow.set (b:=.dead) ‹lim<=_› fun h=>by simp [alive] at h).trans (Grow.place (b:=.cells false _) rfl g (by simpa using hl))
       ·cases h
      ·cases h
     ·split at h
      ·split at h
       ·split at h
        ·rename_i h1;cases h;exact SY h1
        ·cases h
       ·cases h;exact Grow.place (b:=.cells false _) rfl g hl
      ·cases h
   case copy=>
    split at h
    ·split at h
     ·split at h
      ·split at h
       ·cases h;exact Grow.refl _ _
       ·simp only [Nc,Prod.mk.injEq] at h;obtain ⟨_,h1,_,rfl⟩:=h;exact SY h1
      ·split at h
       ·cases h;exact Grow.refl _ _
       ·cases h
     ·cases h
    ·cases h
   case mapEntry=>
    split at h
    ·split at h
     ·split at h
      ·rename_i hc
       split at h<;>cases h
       ·exact Grow.refl _ _
       ·exact Grow.set hc.2 fun _=>rfl
      ·cases h
     ·cases h
    ·cases h
   case entryStore=>
    split at h
    ·split at h
     ·split at h
      ·rename_i hc
       cases h
       exact Grow.set hc.2.2 fun _=>rfl
      ·cases h
     ·cases h
    ·cases h
   case mapUpdate=>
    split at h
    ·split at h
     ·split at h
      ·rename_i hc
       split at h<;>cases h
       ·exact Grow.set hc.2 fun _=>rfl
       ·exact Grow.set hc.2 fun _=>rfl
      ·cases h
     ·cases h
    ·cases h
   case clear=>
    split at h
    ·split at h
     ·cases h;exact Grow.refl _ _
     ·simp only [Nc,Prod.mk.injEq] at h;obtain ⟨_,h1,_,rfl⟩:=h;exact SY h1
    ·cases h
   case delete=>cases h
   case call mp f args=>split at hk<;>cases hk
   case appendL=>simp [isL] at i
theorem Ndg {o:AOp} {lim:Nat} {dest:Option Nat} {ρ:Operand->Value} {H H':NB} {v:Value} (hn:kind o≠.n) (h:NH lim dest o ρ H=some (v,H')) (a:∀d,dest=some d->lim<=d) (hl:lim<=H.length):Grow lim H H':=by
 cases hL:isL o with
 | false=>exact Nbj hL hn h a hl
 | true=>obtain ⟨_,_,h1,h2,_⟩:=M4 hL;exact Nbj h1 (by rw [h2];simp) (V5 h) a hl
theorem Nbk {o:AOp} {lim:Nat} {dest:Option Nat} {ρ:Operand->Value} {H H':NB} {v:Value} (h:NH lim dest o ρ H=some (v,H')) (a:∀d,dest=some d->lim<=d) (hl:lim<=H.length):Grow lim H H':=by
 by_cases hn:kind o=.n
 ·cases o<;>(try (simp [kind] at hn;done))
  ·exact Ndg (by simp [WG,kind]) (V5 h) a hl
  ·rename_i mp f as'
   cases mp<;>simp [kind,CM.isPure] at hn
 ·exact Ndg hn h a hl
def UI (Pg:Prg) (W:Nat->Prop) (lim:Nat) (σ:PQ) (H:NB) (v:Value) (H':NB) (w:World):Ending->World->Prop:=fun e w'=>
 ∃v' a,e=.returned v'/\VRel a v v'/\Inv Pg W lim a H' w'/\Stp W w w'/\PQ.le σ a/\∀j,a j≠σ j->H.length<=j
def Tg (r:Loop) (args:Array Value):Array Value:=(r.params.zip args).foldl (fun tmps (t,a)=>tmps.setIfInBounds t a) r.tmps
structure CallOk (Pg:Prg) (C:TH):Prop extends CallOk0 C where
 fn:∀mp lim g as H v H',C mp lim (.inl g) as H=some (v,H')->∃fn,Pg.P.funcs[g]? = some fn/\fn.body.isSome=true/\(fn.name == "runtime.NumGoroutine")=false
 calls:∀mp lim g as H v H',C mp lim (.inl g) as H=some (v,H')->lim<=H.length->∀W σ w as',Inv Pg W lim σ H w->OB σ as as'->Calls Pg.P g as'.toArray w (UI Pg W lim σ H v H' w)
 rounds:∀mp lim i as H v H',C mp lim (.inr i) as H=some (v,H')->lim<=H.length->∀W σ w as' L,Inv Pg W lim σ H w->OB σ as as'->σ i=some L->
  ∃r,w.heap[L.blk]? = some (.loop r)/\as'.toArray.size=r.params.size/\RoundIn Fence.wide 0 Pg.P L.blk r.fn (Tg r as'.toArray) r.assign r.body w (UI Pg W lim σ H v H' w)
 grow:∀mp lim g as H v H',C mp lim g as H=some (v,H')->lim<=H.length->Grow lim H H'
def WF (ro:Option Nat):Fence:={ Fence.wide with round:=ro }
theorem Yz {ro:Option Nat}:(WF ro).depth.isSome=true->1<=0:=fun h=>by cases h
theorem Na7 {ro:Option Nat} {n:Nat} {P:Program} {f:FuncId} {args:Array Value} {w:World} {R:Ending->World->Prop} (h:Calls P f args w R):CallsIn (WF ro) n P f args w R:=
 ⟨trivial,(callsIn_wide (n:=n).2 h).2⟩
theorem MV {ro:Option Nat} {n m:Nat} {P:Program} {l:Nat} {f:FuncId} {tmps:Array Value} {assign body:Code} {w:World} {R:Ending->World->Prop} (h:RoundIn Fence.wide m P l f tmps assign body w R):RoundIn (WF ro) n P l f tmps assign body w R:=
 ⟨trivial,fun c cs _=>h.2 c cs (room_wide _)⟩
section
variable {P:Program} {pf pureF:FuncId->Bool} {C:TH} {W:Nat->Prop} {lim:Nat} {σ:PQ} {H H':NB} {w:World} {dest:Option Nat}
def XR (Pp:Prg) (W:Nat->Prop) (lim:Nat) (σ:PQ) (dest:Option Nat) (H:NB) (w:World) (v:Value) (H':NB) (v':Value) (w':World) (a:PQ):Prop:=
 VRel a v v'/\Inv Pp W lim a H' w'/\Stp W w w'/\PQ.le σ a/\(∀j,a j≠σ j->dest=some j\/H.length<=j)/\H.length<=H'.length/\Grow lim H H'
theorem Nba {ρ':Operand->Value} {o:Oper} {c:Call} (ho:o.op=.call c) {f:Operand} (hc:c.callee=.value f) {g:FuncId} {fi ca:Array Value} (hf:ρ' f=.func (.func g) fi ca)
  {fn:Func} (h1:P.funcs[g]? = some fn) (h2:fn.body.isSome=true) (h3:(fn.name == "runtime.NumGoroutine")=false) :
  (execOp ρ' o).run P w=.ok (.enter g (fi++c.args.map ρ'++ca)) w:=by
 have hb:fn.body.isNone=false:=by cases h:fn.body<;>simp_all
 have h3':¬(fn.name= "runtime.NumGoroutine"):=by simpa using h3
 simp [execOp,ho,resolve,hc,Deferred.ofValue,hf,invoke,callFunc,h1,h3']
 intro h;rw [h] at h2;cases h2
theorem VRel.yld_left {i:Nat} {b a:Array Value} {v':Value} (h:VRel σ (.func (.yield i) b a) v'):∃L,σ i=some L/\b=#[]/\a=#[]/\v'=.func (.yield L.blk) #[] #[]:=by
 cases h with
 | atom h=>simp [AM.atom] at h
 | yld h=>exact ⟨_,h,rfl,rfl,rfl⟩
theorem Na9 {ρ':Operand->Value} {o:Oper} {c:Call} (ho:o.op=.call c) {f:Operand} (hc:c.callee=.value f) {l:Nat} (a:ρ' f=.func (.yield l) #[] #[])
  {r:Loop} (h1:w.heap[l]? = some (.loop r)) (h2:(c.args.map ρ').size=r.params.size) :
  (execOp ρ' o).run P w=.ok (.round l r.fn (Tg r (c.args.map ρ')) r.assign r.body) w:=by
 have:=run_yield (P:=P) h1 h2
 simp [execOp,ho,resolve,hc,Deferred.ofValue,a,invoke]
 simpa [Tg] using this
theorem CM.lim_le (mp:CM) (hl:lim<=H.length):lim<=mp.lim lim H/\mp.lim lim H<=H.length:=by cases mp<;>simp [CM.lim,hl]
theorem Inv.up {Pp:Prg} {lim':Nat} (h:Inv Pp W lim σ H w) (hl:lim<=lim'):Inv Pp W lim' σ H w:=⟨h.toRoot,h.blk,h.inj,fun i b L hb ho c a=>h.wr i b L hb ho (by omega) a,h.dom⟩
theorem Inv.back {Pp:Prg} {lim':Nat} {e:PQ} {w':World} (a:Inv Pp W lim σ H w) (h:Inv Pp W lim' e H' w') (c:PQ.le σ e) (j:Grow lim' H H'):Inv Pp W lim e H' w':=
 ⟨h.toRoot,h.blk,h.inj,fun i b L hb ho d g=>(j.new i b hb (PT ho)).elim (fun h1=>by
  obtain ⟨L0,h2,_⟩:=a.blk i b h1 (PT ho)
  have f:=c _ _ h2
  rw [g] at f;cases f
  exact a.wr i b L h1 ho d h2) (fun h1=>h.wr i b L hb ho h1.2 g),h.dom⟩
theorem MJ (D:CallOk (Prg.mk P pf) C) {R:Bool} {o:Oper} {O y:AOp} (k:Zh P pureF R o=some y) (S:O=y\/∃m f as,O=.call m f as/\y=.call .any f as) (t:Inv (Prg.mk P pf) W lim σ H w) (hl:lim<=H.length) (ac:∀d,dest=some d->lim<=d) (hd:∀d,dest=some d->d<H.length/\σ d=none)
  {ρ:Operand->Value} {a:Act} (hρ:∀x,QB x=true->VRel σ (ρ x) (a.eval x)) {v:Value} (hx:Rj C lim dest O ρ H=some (v,H'))
  {K:Act->World->Prop} {Q:Exit->Act->World->Prop} (hK:∀v' w' N,XR (Prg.mk P pf) W lim σ dest H w v H' v' w' N->K (a.put o.dst v') w') {ro:Option Nat}:o.wpIn (WF ro) 0 P a w K Q:=by
 by_cases A:∃mp f args,O=.call mp f args
 ·obtain ⟨mp,f,args,rfl⟩:=A
  obtain ⟨Z,rfl⟩:∃Z,y=.call Z f args:=by
   rcases S with h | ⟨m',f',as',h,h'⟩
   ·exact ⟨mp,h.symm⟩
   ·cases h;exact ⟨.any,h'⟩
  have ag:∃c,o.op=.call c/\c.callee=.value f/\args=c.args.toList/\∀x∈o.op.operands,QB x=true:=by
   obtain ⟨dst,op,type,pos,after,guard⟩:=o
   unfold Zh at k
   split at k
   ·cases k
   rename_i V
   simp only [Bool.not_eq_true,Bool.not_eq_false'] at V
   have u:∀x∈op.operands,QB x=true:=fun x hx=>Nf0 (o:=⟨dst,op,type,pos,after,guard⟩) (by simpa using V) hx
   cases op<;>(try simp only at k)<;>try (cases k;done)
   case call c=>
    refine ⟨c,rfl, ?_⟩
    cases hc:c.callee with
    | value f'=>rw [hc] at k;simp at k;obtain ⟨_,rfl,rfl⟩:=k;exact ⟨rfl,rfl,u⟩
    | invoke r m=>rw [hc] at k;simp at k
    | builtin b=>
      rw [hc] at k
      exfalso
      cases b<;>(try simp only at k)<;>(try (cases k;done))<;>(repeat' (split at k))<;>first
       | (cases k;done)
       | (simp only [Nc] at k;obtain ⟨_,_,k⟩:=k;cases k;done)
       | (exfalso;simp at k;done)
       | (obtain ⟨_,_,k⟩:=NM k;obtain ⟨_,_,k⟩:=NM k;obtain ⟨_,_,k⟩:=NM k;split at k<;>cases k;done)
   all_goals exfalso
   all_goals (repeat' (first | (obtain ⟨_,_,k⟩:=NM k) | split at k))
   all_goals first
    | (cases k;done)
    | (simp only [Nc] at k;obtain ⟨_,_,k⟩:=k;cases k;done)
    | contradiction
  obtain ⟨c,ho,q,rfl,u⟩:=ag
  simp only [Rj] at hx
  split at hx
  case h_2=>cases hx
  rename_i g as n
  replace hx:=(SN hx).1
  obtain ⟨F,l⟩:=CM.lim_le mp hl
  have p:=t.up F
  generalize mp.lim lim H=lim' at hx F l p
  generalize mp.isPure=ah at hx
  have Y:∀{ρ'},o.semAt (WF ro).round ρ'=execOp ρ' o:=fun {ρ'}=>Oper.semAt_eq _ _ _ fun c' e=>by rw [ho] at e;cases e
  refine ⟨fun _ _=>trivial, ?_⟩
  rw [Y]
  have ae:QB f=true:=u f (by rw [ho];simp [Op.operands,Call.operands,q])
  have E:=hρ f ae
  have z:OB σ (c.args.toList.map ρ) (c.args.map a.eval).toList:=by
   have:(c.args.map a.eval).toList=c.args.toList.map a.eval:=by simp
   rw [this]
   exact UV fun x hx=>hρ x (u x (by rw [ho];simp only [Op.operands,Call.operands,q];simp at hx⊢;exact .inr hx))
  unfold NC at n
  split at n
  case h_3=>cases n
  case h_2=>
   rename_i i fi ca hf
   simp only [Option.some.injEq,Prod.mk.injEq] at n
   obtain ⟨rfl,rfl⟩:=n
   rw [hf] at E
   obtain ⟨L,hL,rfl,rfl,J⟩:=E.yld_left
   simp only [N6,Nb] at hx
   obtain ⟨r,h1,h2,h3⟩:=D.rounds _ _ _ _ _ _ _ hx l W σ w _ L p z hL
   simp only [Array.toArray_toList] at h2 h3
   rw [Na9 (P:=P) ho q J h1 h2,Oper.uponIn_round]
   refine ⟨Yz,MV (h3.mono fun en w' hp=>?_)⟩
   obtain ⟨v',N,rfl,q1,q2,q3,M,q5⟩:=hp
   exact hK v' w' N ⟨q1,t.back q2 M (D.grow _ _ _ _ _ _ _ hx l),q3,M,fun j T=>.inr (q5 j T),D.len _ _ _ _ _ _ _ hx l,(D.grow _ _ _ _ _ _ _ hx l).weaken F⟩
  rename_i g' fi ca hf
  simp only [Option.some.injEq,Prod.mk.injEq] at n
  obtain ⟨rfl,rfl⟩:=n
  rw [hf] at E
  obtain ⟨I,G,J,ad,aa⟩:=E.func_left
  obtain ⟨fn,h1,h2,h3⟩:=D.fn _ _ _ _ _ _ _ hx
  have X:=Nba (P:=P) (w:=w) ho q J h1 h2 h3
  have s:=D.calls _ _ _ _ _ _ _ hx l W σ w (I.toList++(c.args.map a.eval).toList++G.toList) p ((ad.append z).append aa)
  have e:(I.toList++(c.args.map a.eval).toList++G.toList).toArray=I++c.args.map a.eval++G:=by
   apply Array.ext';simp
  rw [e] at s
  rw [X,Oper.uponIn_enter]
  refine ⟨Yz,Na7 (s.mono fun en w' hp=>?_)⟩
  obtain ⟨v',N,rfl,q1,q2,q3,M,q5⟩:=hp
  exact hK v' w' N ⟨q1,t.back q2 M (D.grow _ _ _ _ _ _ _ hx l),q3,M,fun j T=>.inr (q5 j T),D.len _ _ _ _ _ _ _ hx l,(D.grow _ _ _ _ _ _ _ hx l).weaken F⟩
 ·have U:∀mp f args,O≠.call mp f args:=fun mp f args e=>A ⟨mp,f,args,e⟩
  obtain rfl:O=y:=by
   rcases S with h | ⟨m',f',as',h,_⟩
   ·exact h
   ·exact absurd h (U _ _ _)
  rw [NY U] at hx
  obtain ⟨nx,w',N,v',hr,hn,q1,q2,q3,M,q5,q6,q7⟩:=Nns k t hρ hd hx
  have B:XR (Prg.mk P pf) W lim σ dest H w v H' v' w' N:=⟨q1,q2,q3,M,fun j T=>(q5 j T).imp id (·.2),q6,Nbk hx ac hl⟩
  have ab:∀c,o.op≠.defer c:=fun c e=>by
   obtain ⟨dst,op,type,pos,after,guard⟩:=o
   simp only at e
   subst e
   unfold Zh at k
   split at k<;>simp at k
  refine ⟨fun _ _=>trivial, ?_⟩
  rw [Oper.semAt_eq _ _ _ ab,hr]
  cases nx<;>simp [Nd7] at hn
  ·subst hn;rw [Oper.uponIn_value];exact hK _ _ _ B
  ·subst hn;rw [Oper.uponIn_skip];exact hK _ _ _ B
theorem Nk6 (h:CallOk (Prg.mk P pf) C) {b:Bool} {o:Oper} {g:AOp} (f:Zh P pureF b o=some g) (c:Inv (Prg.mk P pf) W lim σ H w) (hl:lim<=H.length) (e:∀d,dest=some d->lim<=d) (j:∀d,dest=some d->d<H.length/\σ d=none)
  {ρ:Operand->Value} {a:Act} (l:∀x,QB x=true->VRel σ (ρ x) (a.eval x)) {v:Value} (k:Rj C lim dest g ρ H=some (v,H'))
  {K:Act->World->Prop} {Q:Exit->Act->World->Prop} (i:∀v' w' m,XR (Prg.mk P pf) W lim σ dest H w v H' v' w' m->K (a.put o.dst v') w') {ro:Option Nat}:o.wpIn (WF ro) 0 P a w K Q:=
 MJ h f (.inl rfl) c hl e j l k i
end
section
variable {P:Program} {pf pureF:FuncId->Bool} {C:TH} {W:Nat->Prop} {lim:Nat} {σ:PQ} {H H':NB} {w:World} {dest:Option Nat} {ds:List Deferred} {ro:Option Nat}
theorem Inv.mask (base:Nat):∀(l:List Nat) {H:NB},Inv (Prg.mk P pf) W lim σ H w->Inv (Prg.mk P pf) W lim σ (NN base l H) w
 | [],_,h=>h
 | i::l,H,h=>by
   simp only [NN,O9]
   exact Inv.mask base l (h.killAny (base+i))
theorem Nge (a:Inv (Prg.mk P pf) W lim σ H w) (base:Nat) (l:List Nat) (S:∀i∈l,∀b,H[base+i]? = some b->alive b=true->owned b=true) (R:lim<=base) :
  ∃Q:Nat->Prop,Inv (Prg.mk P pf) Q lim σ (NN base l H) w/\∀v f v' w' K,XR (Prg.mk P pf) Q lim σ dest (NN base l H) w v f v' w' K->XR (Prg.mk P pf) W lim σ dest H w v (NL base l H f) v' w' K:=by
 refine ⟨fun b=>W b/\∀i∈l,∀C L,H[base+i]? = some C->alive C=true->σ (base+i)=some L->L.blk≠b, ?_, ?_⟩
 ·have D:=a.mask base l
  have get:∀(j:Nat) b,(NN base l H)[j]? = some b->alive b=true->H[j]? = some b/\∀i∈l,base+i≠j:=fun j b hb n=>by
   by_cases d:∃i∈l,base+i=j
   ·have A:j<H.length:=by
     have:=(List.getElem?_eq_some_iff.1 hb).1
     rw [OG] at this;exact this
    rw [TQ base l H d A] at hb
    cases hb;simp [alive] at n
   ·have m:∀i∈l,base+i≠j:=fun i hi e=>d ⟨i,hi,e⟩
    rw [QE base l H m] at hb
    exact ⟨hb,m⟩
  obtain ⟨w0,Z,r2,r3,r4⟩:=D.held
  refine ⟨⟨fun b hb=>⟨D.fresh b hb,fun k s C O y q x e=>?_⟩,w0,Z,r2,fun b hb=>r3 b hb.1,r4⟩,D.blk,D.inj,fun i b L hb ho hl F=>⟨D.wr i b L hb ho hl F,fun k s C O y q x e=>?_⟩,D.dom⟩
  ·obtain ⟨L',h1,h2⟩:=a.blk (base+k) C y q
   rw [x] at h1;cases h1
   have:=h2.lt q
   omega
  ·obtain ⟨h1,h2⟩:=get i b hb (PT ho)
   exact a.inj i (base+k) b C L O h1 y (fun e=>h2 k s e.symm) ho q F x e.symm
 ·rintro v f v' w' K ⟨Y,E,B,N,T,U,V⟩
  rw [OG] at T U
  have t:Stp W w w':=⟨B.os,B.tape,B.output,B.size,fun b hb=>B.block b fun h=>hb h.1⟩
  have same:∀i L,σ i=some L->K i=some L:=N
  have get:∀(j:Nat) b,(NL base l H f)[j]? = some b->alive b=true->(H[j]? = some b/\∃i∈l,base+i=j)\/(f[j]? = some b/\∀i∈l,base+i≠j):=fun j b hb n=>by
   by_cases d:∃i∈l,base+i=j
   ·have A:j<f.length:=by
     have:=(List.getElem?_eq_some_iff.1 hb).1
     rw [PD] at this;exact this
    rw [RG base H l f d A] at hb
    simp only [Option.some.injEq] at hb
    exact .inl ⟨RV hb n,d⟩
   ·have m:∀i∈l,base+i≠j:=fun i hi e=>d ⟨i,hi,e⟩
    rw [QR base H l f m] at hb
    exact .inr ⟨hb,m⟩
  have old:∀(j:Nat) b,f[j]? = some b->alive b=true->(∀i∈l,base+i≠j)->H[j]? = some b\/(owned b=true/\lim<=j):=fun j b hb n d=>by
   rcases V j b hb n with h | h
   ·rw [QE base l H d] at h;exact .inl h
   ·exact .inr h
  have p:∀(j:Nat) b Lj,H[j]? = some b->alive b=true->K j=some Lj->σ j=some Lj:=fun j b Lj hb n d=>by
   obtain ⟨L,h1,_⟩:=a.blk j b hb n
   have:=same _ _ h1
   rw [this] at d;cases d;exact h1
  refine ⟨Y,⟨a.toRoot.step B.size t.block,fun j b hb n=>?_,fun i j bi bj Li Lj M G r g c hi d=>?_,fun i b L hb ho J F=>?_,fun j d=>E.dom j (by rw [PD] at d;exact d)⟩,t,N,T,by rw [PD];exact U,⟨fun j b hb n=>?_,fun j d=>by
   have m:∀i∈l,base+i≠j:=fun i hi e=>by omega
   rw [QR base H l f m,V.keep j d,QE base l H m]⟩⟩
  ·rcases get j b hb n with ⟨h1,h2⟩ | ⟨h1,h2⟩
   ·obtain ⟨L,o,u⟩:=a.blk j b h1 n
    refine ⟨L,same _ _ o,u.mono N fun _=>B.block _ fun X=>?_⟩
    obtain ⟨k,s,rfl⟩:=h2
    exact X.2 k s b L h1 n o rfl
   ·exact E.blk j b h1 n
  ·rcases get i bi M (PT g) with ⟨h1,h2⟩ | ⟨h1,h2⟩
   ·have z:=p i bi Li h1 (PT g) hi
    rcases get j bj G c with ⟨o,u⟩ | ⟨o,u⟩
    ·exact a.inj i j bi bj Li Lj h1 o r g c z (p j bj Lj o c d)
    ·rcases old j bj o c u with h | h
     ·exact a.inj i j bi bj Li Lj h1 h r g c z (p j bj Lj h c d)
     ·have:=E.wr j bj Lj o h.1 h.2 d
      obtain ⟨k,s,rfl⟩:=h2
      exact this.2 k s bi Li h1 (PT g) z
   ·rcases get j bj G c with ⟨o,u⟩ | ⟨o,u⟩
    ·have I:=p j bj Lj o c d
     rcases old i bi h1 (PT g) h2 with h | h
     ·exact a.inj i j bi bj Li Lj h o r g c (p i bi Li h (PT g) hi) I
     ·have:=E.wr i bi Li h1 h.1 h.2 hi
      obtain ⟨k,s,rfl⟩:=u
      exact fun e=>this.2 k s bj Lj o c I e.symm
    ·exact E.inj i j bi bj Li Lj h1 o r g c hi d
  ·rcases get i b hb (PT ho) with ⟨h1,h2⟩ | ⟨h1,h2⟩
   ·exact a.wr i b L h1 ho J (p i b L h1 (PT ho) F)
   ·exact (E.wr i b L h1 ho J F).1
  ·rcases get j b hb n with ⟨h1,h2⟩ | ⟨h1,h2⟩
   ·exact .inl h1
   ·exact old j b h1 n h2
structure FrRel (ds:List Deferred) (σ:PQ) (N:Nat) (fr:Nat->Value) (a:Act):Prop where
 size:N<=a.tmps.size
 defers:a.defers=ds
 val:∀t,VRel σ (fr t) (a.tmps.getD t undef)
theorem FrRel.mono {σ τ:PQ} {N:Nat} {fr:Nat->Value} {a:Act} (h:FrRel ds σ N fr a) (b:PQ.le σ τ):FrRel ds τ N fr a:=⟨h.size,h.defers,fun t=>(h.val t).mono b⟩
theorem FrRel.ev {σ:PQ} {N:Nat} {fr:Nat->Value} {a:Act} (h:FrRel ds σ N fr a) {x:Operand} (b:QB x=true):VRel σ (ev fr x) (a.eval x):=by
 cases x with
 | tmp t=>exact h.val t
 | const v=>
   have c:atom v=true:=by simpa [QB] using b
   exact .atom c
 | func f=>exact .atom rfl
 | global g=>simp [QB] at b
theorem FrRel.put {σ:PQ} {N:Nat} {fr fr':Nat->Value} {a:Act} (h:FrRel ds σ N fr a) {dst:Option Nat} {v v':Value} (b:VRel σ v v') (hp:WQ N fr dst v=some fr'):FrRel ds σ N fr' (a.put dst v'):=by
 cases dst with
 | none=>cases hp;exact h
 | some d=>
   simp only [WQ] at hp
   split at hp
   case isFalse=>cases hp
   rename_i c
   cases hp
   refine ⟨by simpa [Act.put] using h.size,h.defers,fun t=>?_⟩
   simp only [Act.put,upd,Nw]
   by_cases e:t=d
   ·subst e
    have:t<a.tmps.size:=by have:=h.size;omega
    rw [Nk rfl,Array.getElem?_setIfInBounds_self_of_lt this]
    exact b
   ·rw [Ni e,Pq (fun h=>e h.symm),<-Nw]
    exact h.val t
theorem FrRel.wanted {σ:PQ} {N:Nat} {fr:Nat->Value} {a:Act} (h:FrRel ds σ N fr a) {ops:Array Oper} {o:Oper} {g:Option (Nat×Bool)} (i:Y3 ops o.guard=some g) {b:Bool} (k:RF N fr g=some b) :
  Region.wanted o (yielded ops a.tmps)=b:=by
 unfold Y3 at i
 cases ho:o.guard with
 | none=>
   rw [ho] at i;simp at i;subst i
   simp [RF] at k;subst k
   simp [Region.wanted,ho]
 | some p=>
   obtain ⟨j,c⟩:=p
   rw [ho] at i
   simp only at i
   split at i
   case h_2=>cases i
   rename_i t r
   simp only [Option.some.injEq] at i;subst i
   simp only [RF] at k
   split at k
   case isFalse=>cases k
   rename_i n
   have m:t<a.tmps.size:=Nat.lt_of_lt_of_le n h.size
   have f:=h.val t
   rw [Nw,Nu m] at f
   simp only [Oj] at f
   have s:yielded ops a.tmps j=match a.tmps[t] with | .bool b=>some b | _=>none:=by
    unfold yielded
    rw [r]
    simp only [Option.bind_some,Nu m]
    cases a.tmps[t]<;>rfl
   simp only [Region.wanted,ho,s]
   split at k
   ·rename_i d q
    rw [q] at f
    rw [f.bool_left]
    simp only [Option.some.injEq] at k
    rw [<-k]
    simp
   ·rename_i l
    simp only [Option.some.injEq] at k
    rw [<-k]
    have:∀d,a.tmps[t]≠.bool d:=fun d e=>by
     rw [e] at f
     generalize fr t=x at f l
     cases f
     exact l d rfl
    cases hx:a.tmps[t]<;>first | (exact absurd hx (this _)) | simp
structure State (Pp:Prg) (ds:List Deferred) (W:Nat->Prop) (lim:Nat) (σ:PQ) (N:Nat) (fr:Nat->Value) (H:NB) (a:Act) (w:World):Prop where
 fr:FrRel ds σ N fr a
 inv:Inv Pp W lim σ H w
 lim:lim<=H.length
structure Kept (σ:PQ) (H:NB) (base n:Nat) (todo:List Nat):Prop where
 len:base+n<=H.length
 own:∀r,r<n->∀b,H[base+r]? = some b->alive b=true->owned b=true
 free:∀r∈todo,σ (base+r)=none
 lt:∀r∈todo,r<n
theorem MK {C:TH} {o:AOp} {lim:Nat} {dest:Option Nat} {ρ:Operand->Value} {H:NB} {r} (h:Rj C lim dest o ρ H=some r):Rj C lim dest (WG o) ρ H=some r:=by
 by_cases hc:∃mp f args,o=.call mp f args
 ·obtain ⟨mp,f,args,rfl⟩:=hc;exact h
 ·have a:∀mp f args,o≠.call mp f args:=fun mp f args e=>hc ⟨mp,f,args,e⟩
  rw [NY a] at h
  have b:∀mp f args,WG o≠.call mp f args:=fun mp f args e=>by
   cases o<;>simp only [WG] at e<;>first | (cases e;done) | (exact a _ _ _ e) | (split at e<;>first | (cases e;done) | (rename_i c;cases c;done) | (exact a _ _ _ e))
  rw [NY b]
  exact V5 h
theorem Nt7 (hC:CallOk (Prg.mk P pf) C) {ops:Array Oper} {j:Nat} {o:Oper} (F:ops[j]? = some o) {i0:AIns} (p:Nj6 P pureF true ops o=some i0) {i:AIns} (hi:i.dst=i0.dst/\i.guard=i0.guard/\(i.op=i0.op\/WG i.op=i0.op\/∃m f as,i.op=.call m f as/\i0.op=.call .any f as)) (U:X8 i0.op=false)
  {N base n:Nat} {fr fr':Nat->Value} {a:Act} (s:State (Prg.mk P pf) ds W lim σ N fr H a w) (O:lim<=base) {todo:List Nat} (l:Kept σ H base n todo) (E:∀r,i.made=some r->r∈todo/\r<n) (u:∀r∈i.mask,r<n)
  (k:Tv C N lim (some base) i fr H=some (fr',H')) {K:Act->World->Prop} {Q:Exit->Act->World->Prop}
  (Y:∀z a' w',State (Prg.mk P pf) ds W lim z N fr' H' a' w'->Stp W w w'->PQ.le σ z->Grow lim H H'->Kept z H' base n (todo.filter fun r=>i.made≠some r)->(∀j,z j≠σ j->(∃r,i.made=some r/\j=base+r)\/H.length<=j)->H.length<=H'.length->K a' w'):wpOpIn (WF ro) 0 P ops Q j K a w:=by
 obtain ⟨A,J,p⟩:=NM p
 obtain ⟨g,hg,p⟩:=NM p
 cases p
 obtain ⟨e1,e2,e3⟩:=hi
 simp only at e1 e2 e3
 unfold wpOpIn
 rw [F]
 simp only
 unfold Tv at k
 rw [Sw,e2,e1] at k
 cases hw:RF N fr g with
 | none=>rw [hw] at k;cases k
 | some b=>
 rw [s.fr.wanted hg hw]
 rw [hw] at k
 cases b with
 | false=>
   simp only [No,if_false]
   simp only [Nc,Prod.mk.injEq] at k
   obtain ⟨f,M,rfl,rfl⟩:=k
   exact ⟨fun _ _=>trivial,Y σ _ w ⟨s.fr.put (.atom rfl) M,s.inv,s.lim⟩ (Stp.refl _ _) (PQ.le_refl _) (Grow.refl _ _) ⟨l.len,l.own,fun r hr=>l.free r (Oo.1 hr).1,fun r hr=>l.lt r (Oo.1 hr).1⟩ (fun j F=>absurd rfl F) (Nd _)⟩
 | true=>
   simp only [if_true]
   simp only [PG] at k
   split at k
   case h_2=>cases k
   rename_i v H1 I
   split at I
   case h_2=>cases I
   rename_i v1 Hm c
   simp only [Option.some.injEq,Prod.mk.injEq] at I
   obtain ⟨rfl,rfl⟩:=I
   simp only [Nc,Prod.mk.injEq] at k
   obtain ⟨f,M,rfl,rfl⟩:=k
   obtain ⟨q,c,t⟩:∃q,Rj C lim (i.made.map (base+·)) q (ev fr) (NN base i.mask H)=some (v1,Hm)/\(q=A\/∃m f as,q=.call m f as/\A=.call .any f as):=by
    cases hS:X8 i.op with
    | false=>
      have y:i.made=i.dest:=by simp [AIns.made,hS]
      rw [y]
      rcases e3 with e3 | e3 | ⟨m',X,as',e3,V⟩
      ·exact ⟨A,by rw [e3] at c;exact c,.inl rfl⟩
      ·exact ⟨A,by rw [<-e3];exact MK c,.inl rfl⟩
      ·exact ⟨_,c,.inr ⟨m',X,as',e3,V⟩⟩
    | true=>
      have y:i.made=none:=by simp [AIns.made,hS]
      rw [y]
      rcases e3 with e3 | e3 | ⟨m',X,as',e3,V⟩
      ·rw [e3,U] at hS;cases hS
      ·refine ⟨A, ?_,.inl rfl⟩
       have h2:=MK c
       rw [e3] at h2
       generalize ac:i.op=io at hS e3
       cases io<;>simp [X8] at hS
       simp only [WG] at e3
       subst e3
       exact h2
      ·rw [e3] at hS;simp [X8] at hS
   have L:∀d,i.made.map (base+·)=some d->∃r,i.made=some r/\d=base+r/\r∈todo/\r<n:=fun d e=>by
    simp only [Nc] at e
    obtain ⟨r,hr,rfl⟩:=e
    exact ⟨r,hr,rfl,E r hr⟩
   obtain ⟨Wm,R,S⟩:=Nge (dest:=i.made.map (base+·)) s.inv base i.mask (fun r hr b hb G=>l.own r (u r hr) b hb G) O
   refine MJ hC J t R (by rw [OG];exact s.lim) (fun d e=>by obtain ⟨r,_,rfl,_⟩:=L d e;omega)
    (fun d e=>by
     obtain ⟨r,_,rfl,h1,h2⟩:=L d e
     rw [OG]
     exact ⟨by have:=l.len;omega,l.free r h1⟩) (fun x k=>s.fr.ev k) c fun v' w' z hn=>?_
   obtain ⟨q1,q2,q3,Z,q5,q6,q7⟩:=S _ _ _ _ _ hn
   have B:∀j,z j≠σ j->(∃r,i.made=some r/\j=base+r)\/H.length<=j:=fun j F=>by
    rcases q5 j F with h | h
    ·obtain ⟨r,h1,h2,_⟩:=L j h
     exact .inl ⟨r,h1,h2⟩
    ·exact .inr h
   refine Y z _ w' ⟨(s.fr.mono Z).put q1 M,q2,by have:=s.lim;omega⟩ q3 Z q7 ⟨by have:=l.len;omega,fun r hr b hb G=>?_,fun r hr=>?_,fun r hr=>l.lt r (Oo.1 hr).1⟩ B q6
   ·rcases q7 _ b hb G with h | h
    ·exact l.own r hr b h G
    ·exact h.1
   ·obtain ⟨h1,h2⟩:=Oo.1 hr
    have T:i.made≠some r:=by simpa using h2
    apply Po
    intro hc
    have D:=B (base+r) (fun e=>hc (by rw [e];exact l.free r h1))
    rcases D with ⟨r',h3,h4⟩ | h3
    ·have:r'=r:=by omega
     subst this;exact T h3
    ·have aa:=l.lt r h1;have ab:=l.len;omega
end
theorem YL {α β:Type} {f:α->Option β}:∀{l:List α} {r:List β},l.mapM f=some r->r.length=l.length/\∀(j:Nat) x y,l[j]? = some x->r[j]? = some y->f x=some y
 | [],r,h=>by simp at h;subst h;exact ⟨rfl,fun j x y c=>by simp at c⟩
 | a::l,r,h=>by
   rw [List.mapM_cons] at h
   obtain ⟨b,hb,h⟩:=NM h
   obtain ⟨r',d,h⟩:=NM h
   cases h
   obtain ⟨h1,h2⟩:=YL d
   refine ⟨by simp [h1],fun j x y c e=>?_⟩
   cases j with
   | zero=>simp at c e;subst c e;exact hb
   | succ j=>exact h2 j x y (by simpa using c) (by simpa using e)
section
variable {P:Program} {pf pureF:FuncId->Bool} {C:TH} {W:Nat->Prop} {lim:Nat} {σ:PQ} {H H':NB} {w:World} {ds:List Deferred} {ro:Option Nat}
def Nuh (Pp:Prg) (ds:List Deferred) (W:Nat->Prop) (lim:Nat) (σ:PQ) (N:Nat) (fr':Nat->Value) (H H':NB) (w:World):Exit->Act->World->Prop:=fun e a' w'=>
 e=.normal/\∃a,State Pp ds W lim a N fr' H' a' w'/\Stp W w w'/\PQ.le σ a/\Grow lim H H'/\(∀j,a j≠σ j->H.length<=j)/\H.length<=H'.length
theorem Y0 {ops:Array Oper} {listed:Array Bool} (b:∀(i:Nat) o,ops[i]? = some o->listed.getD i false=true->∀e∈o.after.toList,Region.binds .any e=true->listed.getD e.on false=true) :
  ∀(n x a:Nat),listed.getD x false=true->waits ops n x a=true->listed.getD a false=true
 | 0,x,a,_,h=>by simp [waits] at h
 | n+1,x,a,hx,h=>by
   unfold waits at h
   split at h
   ·rename_i o ho
    obtain ⟨e,he,h2⟩:=List.any_eq_true.1 h
    simp only [Nq,Bool.or_eq_true,beq_iff_eq] at h2
    have c:=b x o ho hx e he h2.1
    rcases h2.2 with h3 | h3
    ·rw [<-h3];exact c
    ·exact Y0 b n e.on a c h3
   ·cases h
theorem Nag {ops:Array Oper}:∀(l b:List Nat),Nkc ops b l=true->∀A i B,l=A++i::B->∀o,ops[i]? = some o->∀e∈o.after.toList,Region.binds .any e=true->e.on∈b++A
 | [],b,_,A,i,B,h=>by simp at h
 | x::l,b,hk,A,i,B,h=>by
   intro o ho e he hb
   simp only [Nkc,Nq] at hk
   cases A with
   | nil=>
     simp only [N6,List.cons.injEq] at h
     obtain ⟨rfl,rfl⟩:=h
     have h1:=hk.1
     rw [ho] at h1
     have:=N2.1 h1 e he
     rw [hb] at this
     simpa using this
   | cons a A=>
     simp only [N1,List.cons.injEq] at h
     obtain ⟨rfl,h⟩:=h
     have:=Nag l (b++[x]) hk.2 A i B h o ho e he hb
     simpa using this
theorem YG {ops:Array Oper} {L:List AIns}:∀(l b:List Nat),M0 ops L b l=true->∀A i B,l=A++i::B->∀j∈b++A,Nh6 ops L i j=true
 | [],b,_,A,i,B,h=>by simp at h
 | x::l,b,hk,A,i,B,h=>by
   intro j c
   simp only [M0,Nq] at hk
   cases A with
   | nil=>
     simp only [N6,List.cons.injEq] at h
     obtain ⟨rfl,rfl⟩:=h
     exact N2.1 hk.1 j (by simpa using c)
   | cons a A=>
     simp only [N1,List.cons.injEq] at h
     obtain ⟨rfl,h⟩:=h
     exact YG l (b++[x]) hk.2 A i B h j (by simpa using c)
theorem ZM:∀{l:List Nat},nodupB l=true->l.Nodup
 | [],_=>List.nodup_nil
 | x::l,h=>by
   simp only [nodupB,Nq,Bool.not_eq_true',List.contains_eq_mem,decide_eq_false_iff_not] at h
   exact List.nodup_cons.2 ⟨h.1,ZM h.2⟩
theorem ZE {ops:Array Oper} {ord:List Nat} (hb:∀A i B,ord=A++i::B->∀o,ops[i]? = some o->∀e∈o.after.toList,Region.binds .any e=true->e.on∈A) :
  ∀(n x a:Nat),waits ops n x a=true->∀A B,ord=A++x::B->a∈A
 | 0,x,a,h=>by simp [waits] at h
 | n+1,x,a,h=>by
   intro A B b
   unfold waits at h
   split at h
   ·rename_i o ho
    obtain ⟨e,he,h2⟩:=List.any_eq_true.1 h
    simp only [Nq,Bool.or_eq_true,beq_iff_eq] at h2
    have c:=hb A x B b o ho e he h2.1
    rcases h2.2 with h3 | h3
    ·rw [<-h3];exact c
    ·obtain ⟨d,f,rfl⟩:=List.append_of_mem c
     have:=ZE hb n e.on a h3 d (f++x::B) (by rw [b];simp)
     exact Ox _ this
   ·cases h
theorem Zp {ops:Array Oper} {listed:Array Bool} {i:Nat}:i∈Region.ready .any ops listed↔i<ops.size/\listed.getD i true=false/\∀o,ops[i]? = some o->∀e∈o.after.toList,Region.binds .any e=true->listed.getD e.on false=true:=by
 unfold Region.ready
 rw [Oo]
 simp only [List.mem_range,Nq,Bool.not_eq_true']
 constructor
 ·rintro ⟨h1,h2,a⟩
  refine ⟨h1,h2,fun o ho e he hb=>?_⟩
  rw [ho] at a
  simp only [Ns,Oj] at a
  rw [<-Array.all_toList] at a
  have:=N2.1 a e he
  simpa [hb] using this
 ·rintro ⟨h1,h2,a⟩
  refine ⟨h1,h2, ?_⟩
  have ho:ops[i]? = some ops[i]:=Nu h1
  rw [ho]
  simp only [Ns,Oj]
  rw [<-Array.all_toList]
  refine N2.2 fun e he=>?_
  cases hb:Region.binds .any e with
  | false=>simp
  | true=>simpa using a _ ho e he hb
theorem YE:∀(l:List AOp) (n j:Nat),(QG.go n l).length=l.length/\(∀o r,l[j]? = some o->(QG.go n l)[j]? = some r->(makes o=true->∃k,r=some k/\n<=k/\k<n+((QG.go n l).filterMap id).length)/\(makes o=false->r=none))
 | [],n,j=>⟨rfl,fun o r h=>by simp at h⟩
 | o::l,n,j=>by
   unfold QG.go
   cases hm:makes o with
   | true=>
     simp only [if_true]
     obtain ⟨h1,h2⟩:=YE l (n+1) (j-1)
     refine ⟨by simp [h1],fun c r ho hr=>?_⟩
     cases j with
     | zero=>simp at ho hr;subst ho hr;exact ⟨fun _=>⟨n,rfl,Nd _,(by simp)⟩,(fun h=>by rw [hm] at h;cases h)⟩
     | succ j=>
       obtain ⟨a,b⟩:=h2 c r (by simpa using ho) (by simpa using hr)
       refine ⟨fun h=>?_,b⟩
       obtain ⟨k,k1,k2,k3⟩:=a h
       refine ⟨k,k1,by omega, ?_⟩
       simp only [List.filterMap_cons,id,Nm]
       omega
   | false=>
     simp only [No,if_false]
     obtain ⟨h1,h2⟩:=YE l n (j-1)
     refine ⟨by simp [h1],fun c r ho hr=>?_⟩
     cases j with
     | zero=>simp at ho hr;subst ho hr;exact ⟨(fun h=>by rw [hm] at h;cases h),fun _=>rfl⟩
     | succ j=>
       obtain ⟨a,b⟩:=h2 c r (by simpa using ho) (by simpa using hr)
       refine ⟨fun h=>?_,b⟩
       obtain ⟨k,k1,k2,k3⟩:=a h
       exact ⟨k,k1,k2,by simpa using k3⟩
theorem VE:∀(l:List AOp) (n i j k:Nat),(QG.go n l)[i]? = some (some k)->(QG.go n l)[j]? = some (some k)->i=j/\n<=k
 | [],n,i,j,k,h,_=>by simp [QG.go] at h
 | o::l,n,i,j,k,hi,hj=>by
   unfold QG.go at hi hj
   cases hm:makes o with
   | true=>
     rw [hm] at hi hj
     simp only [if_true] at hi hj
     cases i with
     | zero=>
       cases j with
       | zero=>simp at hi;exact ⟨rfl,by omega⟩
       | succ j=>
         simp at hi hj
         have:=(VE l (n+1) j j k hj hj).2
         omega
     | succ i=>
       cases j with
       | zero=>
         simp at hi hj
         have:=(VE l (n+1) i i k hi hi).2
         omega
       | succ j=>
         simp at hi hj
         have:=VE l (n+1) i j k hi hj
         omega
   | false=>
     rw [hm] at hi hj
     simp only [No,if_false] at hi hj
     cases i with
     | zero=>simp at hi
     | succ i=>
       cases j with
       | zero=>simp at hj
       | succ j=>
         simp at hi hj
         have:=VE l n i j k hi hj
         omega
structure Plan (P:Program) (pureF:FuncId->Bool) (ops:Array Oper) (n:Nat) (ord:List Nat) (L:List AIns):Prop where
 len:L.length=ops.size
 mem:∀i,i∈ord↔i<ops.size
 nodup:ord.Nodup
 back:∀A i B,ord=A++i::B->∀o,ops[i]? = some o->∀e∈o.after.toList,Region.binds .any e=true->e.on∈A
 ins:∀(j:Nat) o i,ops[j]? = some o->L[j]? = some i->∃i0,Nj6 P pureF true ops o=some i0/\i.dst=i0.dst/\i.guard=i0.guard/\(i.op=i0.op\/WG i.op=i0.op\/∃m f as,i.op=.call m f as/\i0.op=.call .any f as)/\X8 i0.op=false
 planned:∀(j:Nat) i,L[j]? = some i->Planned i
 sep:∀A i B,ord=A++i::B->∀j∈A,∀x y,L[j]? = some x->L[i]? = some y->waits ops ops.size i j=false->Sep x y
 dest:∀(j:Nat) i r,L[j]? = some i->i.dest=some r->r<n
 mask:∀(j:Nat) i r,L[j]? = some i->r∈i.mask->r<n
 inj:∀(i j:Nat) x y r,L[i]? = some x->L[j]? = some y->x.made=some r->y.made=some r->i=j
theorem No5 (i:AIns):(toL i).dst=i.dst/\(toL i).guard=i.guard/\((toL i).op=i.op\/WG (toL i).op=i.op/\∃e b s x y,i.op=.append e b s x y/\∀f as,(toL i).op≠.call .any f as):=by
 unfold toL
 split
 ·rename_i h;exact ⟨rfl,rfl,.inr ⟨by rw [h];rfl,_,_,_,_,_,h,fun f as e=>by cases e⟩⟩
 ·exact ⟨rfl,rfl,.inl rfl⟩
theorem Nja (l0:List AIns) (x:AIns):(fresh l0 x).dst=x.dst/\(fresh l0 x).guard=x.guard/\((fresh l0 x).op=x.op\/WG (fresh l0 x).op=x.op/\∃e b s y z,(fresh l0 x).op=.append0 e b s y z):=by
 unfold fresh
 split
 ·rename_i a
  split
  ·exact ⟨rfl,rfl,.inr ⟨by simp only [a,WG],_,_,_,_,_,rfl⟩⟩
  ·exact ⟨rfl,rfl,.inl rfl⟩
 ·exact ⟨rfl,rfl,.inl rfl⟩
theorem Nh3 (st:Bool) (l0:List AIns) (x:AIns):(WR st l0 x).dst=x.dst/\(WR st l0 x).guard=x.guard/\((WR st l0 x).op=x.op\/WG (WR st l0 x).op=x.op/\((∃e b s y z,(WR st l0 x).op=.append0 e b s y z)\/∃n a z,(WR st l0 x).op=.storeD n a z)):=by
 obtain ⟨f,g,c⟩:=Nja l0 x
 unfold WR
 split
 ·unfold toS
  split
  ·rename_i n t z d
   split
   ·refine ⟨f,g,.inr ⟨?_,.inr ⟨_,_,_,rfl⟩⟩⟩
    rcases c with c | ⟨_,_,_,_,_,_,i⟩
    ·rw [<-c,d];rfl
    ·rw [d] at i;cases i
   ·exact ⟨f,g,c.imp id fun h=>⟨h.1,.inl h.2⟩⟩
  ·exact ⟨f,g,c.imp id fun h=>⟨h.1,.inl h.2⟩⟩
 ·exact ⟨f,g,c.imp id fun h=>⟨h.1,.inl h.2⟩⟩
theorem Ur (l:List AIns) (a:List (Option Nat)) (i:AIns):(MQ l a i).dst=i.dst/\(MQ l a i).guard=i.guard/\(MQ l a i).op=i.op/\(MQ l a i).mask=i.mask:=by
 unfold MQ
 split<;>exact ⟨rfl,rfl,rfl,rfl⟩
theorem VR {l:List AIns} {a:List (Option Nat)} {i:AIns} (h:X8 i.op=false):MQ l a i=i:=by
 unfold MQ
 rw [h];rfl
theorem Xo {ops:Array Oper} {L:List AIns} (h:Nw1 ops L=true) {i j:Nat} {x y:AIns} (c:L[i]? = some x) (d:L[j]? = some y) (b:i≠j) (k:waits ops ops.size i j=false) (l:waits ops ops.size j i=false) (g:X8 x.op=true) {r:Nat} (hr:x.dest=some r) :
  y.dest≠some r/\(r∈y.mask\/kind y.op=.p\/kind y.op=.a\/kind y.op=.s):=by
 have hi:=(List.getElem?_eq_some_iff.1 c).1
 have f:=(List.getElem?_eq_some_iff.1 d).1
 have:=N2.1 h i (List.mem_range.2 hi)
 rw [c] at this
 simp only [g,Ok,Bool.false_or] at this
 replace this:=N2.1 this j (List.mem_range.2 f)
 rw [d,k,l] at this
 simp only [hr] at this
 have e:(i == j)=false:=by simpa using b
 rw [e] at this
 simp at this
 obtain ⟨h1,h2⟩:=this
 refine ⟨h1, ?_⟩
 rcases h2 with ((h2 | h2) | h2) | h2
 ·exact .inl h2
 ·exact .inr (.inl h2)
 ·exact .inr (.inr (.inl h2))
 ·exact .inr (.inr (.inr h2))
theorem ZX {L:List AIns} {n:Nat} (h:Nrf L n=true) {j:Nat} {x:AIns} (b:L[j]? = some x) (a:X8 x.op=true):∃r,x.dest=some r/\r<n:=by
 have:=N2.1 h x (Oa b)
 rw [a] at this
 simp only [Ok,Bool.false_or] at this
 split at this
 ·rename_i r hr;exact ⟨r,hr,by simpa using this⟩
 ·cases this
theorem Nk4 (i:AIns):(Nhm P i).dst=i.dst/\(Nhm P i).guard=i.guard/\((Nhm P i).op=i.op\/∃m f as,(Nhm P i).op=.call m f as/\i.op=.call .any f as):=by
 unfold Nhm
 split
 ·rename_i h
  split
  ·exact ⟨rfl,rfl,.inr ⟨_,_,_,rfl,h⟩⟩
  ·exact ⟨rfl,rfl,.inr ⟨_,_,_,rfl,h⟩⟩
 ·rename_i h;exact ⟨rfl,rfl,.inr ⟨_,_,_,rfl,h⟩⟩
 ·exact ⟨rfl,rfl,.inl rfl⟩
theorem Nhn (i:AIns):(ZF i).dst=i.dst/\(ZF i).guard=i.guard/\((ZF i).op=i.op\/(WG (ZF i).op=i.op/\WG i.op=i.op)\/∃m f as,(ZF i).op=.call m f as/\i.op=.call .any f as):=by
 unfold ZF
 split
 ·rename_i h;exact ⟨rfl,rfl,.inr (.inr ⟨_,_,_,rfl,h⟩)⟩
 ·rename_i h;exact ⟨rfl,rfl,.inr (.inl ⟨by rw [h];rfl,by rw [h];rfl⟩)⟩
 ·exact ⟨rfl,rfl,.inl rfl⟩
theorem Nk3 {ops:Array Oper} {l:List AIns} {k:Nat} (i:AIns):(Ne0 ops l k i).dst=i.dst/\(Ne0 ops l k i).guard=i.guard/\((Ne0 ops l k i).op=i.op\/(WG (Ne0 ops l k i).op=i.op/\WG i.op=i.op)\/∃m f as,(Ne0 ops l k i).op=.call m f as/\i.op=.call .any f as):=by
 unfold Ne0
 split
 ·rename_i h
  split
  ·exact ⟨rfl,rfl,.inr (.inr ⟨_,_,_,rfl,h⟩)⟩
  ·exact ⟨rfl,rfl,.inl rfl⟩
 ·rename_i h
  split
  ·exact ⟨rfl,rfl,.inr (.inl ⟨by rw [h];rfl,by rw [h];rfl⟩)⟩
  ·split
   ·exact ⟨rfl,rfl,.inr (.inl ⟨by rw [h];rfl,by rw [h];rfl⟩)⟩
   ·exact ⟨rfl,rfl,.inl rfl⟩
 ·rename_i h
  split
  ·exact ⟨rfl,rfl,.inr (.inl ⟨by rw [h];rfl,by rw [h];rfl⟩)⟩
  ·split
   ·exact ⟨rfl,rfl,.inr (.inl ⟨by rw [h];rfl,by rw [h];rfl⟩)⟩
   ·exact ⟨rfl,rfl,.inl rfl⟩
 ·rename_i h
  split
  ·split
   ·exact ⟨rfl,rfl,.inr (.inl ⟨by rw [h];rfl,by rw [h];rfl⟩)⟩
   ·exact ⟨rfl,rfl,.inr (.inl ⟨by rw [h];rfl,by rw [h];rfl⟩)⟩
  ·exact ⟨rfl,rfl,.inl rfl⟩
 ·exact ⟨rfl,rfl,.inl rfl⟩
theorem ZZ {st:Bool} {ops:Array Oper} {n:Nat} {M:List AIns} (h:VC P pureF st ops=some (.drawn n M)):∃ord L,Plan P pureF ops n ord L/\M=ord.map fun j=>L.getD j default:=by
 unfold VC at h
 obtain ⟨l0,a4,h⟩:=NM h
 simp only at h
 generalize G:late ops (l0.map (WR st l0))=k at h
 generalize ak:((l0.map (WR st l0)).zipIdx.map fun (i,j)=>if k=some j then toL i else i)=l2 at h
 generalize am:(l2.zipIdx.map fun (i,j)=>if Nfd l2 then Ne0 ops l2 j i else if Nei P ops l2 j||fixLoad P ops l2 j then ZF i else if Wq ops l2 j then Nhm P i else i)=l at h
 generalize bc:Nuo ops l.length (mks l) k=ord at h
 split at h
 case isFalse=>cases h
 rename_i hc
 simp only [Nq] at hc
 obtain ⟨⟨⟨⟨⟨N,ai⟩,Y⟩,an⟩,u⟩,C⟩:=hc
 simp only [pure,Option.some.injEq,ACode.drawn.injEq] at h
 obtain ⟨hn,hM⟩:=h
 generalize hL:(l.zipIdx.map fun (p:AIns×Nat)=>MQ l (QG (l.map fun x=>x.op)) (QT ops (QG (l.map fun x=>x.op)) p.2 p.1))=L at hM u C
 refine ⟨ord,L, ?_,hM.symm⟩
 obtain ⟨ah,ad⟩:=YL a4
 have al:l.length=ops.toList.length:=by rw [<-am,Nz,List.length_zipIdx,<-ak,Nz,List.length_zipIdx,Nz];exact ah
 have X:∀(j:Nat) z,l2[j]? = some z->∃g,l0[j]? = some g/\z.dst=g.dst/\z.guard=g.guard/\(z.op=g.op\/(WG z.op=g.op/\∀f as,z.op≠.call .any f as)):=fun j z R=>by
  rw [<-ak,O0,List.getElem?_zipIdx,O0] at R
  simp only [Nc] at R
  obtain ⟨p,⟨q,⟨g,h0,rfl⟩,rfl⟩,rfl⟩:=R
  refine ⟨g,h0, ?_⟩
  obtain ⟨S,T,f3⟩:=Nh3 st l0 g
  simp only
  split
  ·obtain ⟨t1,t2,d⟩:=No5 (WR st l0 g)
   refine ⟨t1.trans S,t2.trans T, ?_⟩
   rcases d with d | ⟨d,_,_,_,_,_,E,t5⟩
   ·rcases f3 with f3 | ⟨f3,⟨_,_,_,_,_,F⟩ | ⟨_,_,_,F⟩⟩
    ·exact .inl (d.trans f3)
    ·exact .inr ⟨by rw [d];exact f3,by rw [d,F];intro _ _ h;cases h⟩
    ·exact .inr ⟨by rw [d];exact f3,by rw [d,F];intro _ _ h;cases h⟩
   ·rcases f3 with f3 | ⟨f3,⟨_,_,_,_,_,F⟩ | ⟨_,_,_,F⟩⟩
    ·exact .inr ⟨d.trans f3,t5⟩
    ·rw [E] at F;cases F
    ·rw [E] at F;cases F
  ·refine ⟨S,T, ?_⟩
   rcases f3 with f3 | ⟨f3,⟨_,_,_,_,_,F⟩ | ⟨_,_,_,F⟩⟩
   ·exact .inl f3
   ·exact .inr ⟨f3,by rw [F];intro _ _ h;cases h⟩
   ·exact .inr ⟨f3,by rw [F];intro _ _ h;cases h⟩
 have ac:∀(j:Nat) z,l[j]? = some z->∃g,l0[j]? = some g/\z.dst=g.dst/\z.guard=g.guard/\(z.op=g.op\/WG z.op=g.op\/∃m f as,z.op=.call m f as/\g.op=.call .any f as):=fun j z R=>by
  rw [<-am,O0,List.getElem?_zipIdx] at R
  simp only [Nc] at R
  obtain ⟨p,⟨q,hq,rfl⟩,rfl⟩:=R
  obtain ⟨g,h0,S,T,f3⟩:=X j q hq
  refine ⟨g,h0, ?_⟩
  simp only
  split
  ·obtain ⟨t1,t2,d⟩:=Nk3 (ops:=ops) (l:=l2) (k:=0+j) q
   refine ⟨t1.trans S,t2.trans T, ?_⟩
   rcases d with d | ⟨d,E⟩ | ⟨m,f,as,d,E⟩
   ·rcases f3 with f3 | f3
    ·exact .inl (d.trans f3)
    ·exact .inr (.inl (by rw [d];exact f3.1))
   ·rcases f3 with f3 | f3
    ·exact .inr (.inl (d.trans f3))
    ·exact .inr (.inl (d.trans (E.symm.trans f3.1)))
   ·rcases f3 with f3 | f3
    ·exact .inr (.inr ⟨m,f,as,d,f3.symm.trans E⟩)
    ·exact absurd E (f3.2 f as)
  split
  ·obtain ⟨t1,t2,d⟩:=Nhn q
   refine ⟨t1.trans S,t2.trans T, ?_⟩
   rcases d with d | ⟨d,E⟩ | ⟨m,f,as,d,E⟩
   ·rcases f3 with f3 | f3
    ·exact .inl (d.trans f3)
    ·exact .inr (.inl (by rw [d];exact f3.1))
   ·rcases f3 with f3 | f3
    ·exact .inr (.inl (d.trans f3))
    ·exact .inr (.inl (d.trans (E.symm.trans f3.1)))
   ·rcases f3 with f3 | f3
    ·exact .inr (.inr ⟨m,f,as,d,f3.symm.trans E⟩)
    ·exact absurd E (f3.2 f as)
  split
  ·obtain ⟨t1,t2,d⟩:=Nk4 (P:=P) q
   refine ⟨t1.trans S,t2.trans T, ?_⟩
   rcases d with d | ⟨m,f,as,d,E⟩
   ·rcases f3 with f3 | f3
    ·exact .inl (d.trans f3)
    ·exact .inr (.inl (by rw [d];exact f3.1))
   ·rcases f3 with f3 | f3
    ·exact .inr (.inr ⟨m,f,as,d,f3.symm.trans E⟩)
    ·exact absurd E (f3.2 f as)
  ·exact ⟨S,T,f3.imp id fun h=>.inl h.1⟩
 have bb:(QG (l.map (·.op))).length=l.length:=by unfold QG;rw [(YE _ 0 0).1];simp
 have get:∀(j:Nat) i,L[j]? = some i->∃i0,l[j]? = some i0/\i=MQ l (QG (l.map (·.op))) (QT ops (QG (l.map (·.op))) j i0):=fun j i hi=>by
  rw [<-hL,O0,List.getElem?_zipIdx] at hi
  simp only [Nc] at hi
  obtain ⟨p,hp,rfl⟩:=hi
  obtain ⟨i0,h1,rfl⟩:=hp
  exact ⟨i0,h1,by simp⟩
 have rk:∀(j:Nat) i0,l[j]? = some i0->∃r,(QG (l.map (·.op)))[j]? = some r/\(makes i0.op=true->∃k,r=some k/\k<n)/\(makes i0.op=false->r=none):=fun j i0 aj=>by
  have hj:j<l.length:=(List.getElem?_eq_some_iff.1 aj).1
  have hr:(QG (l.map (·.op)))[j]? = some ((QG (l.map (·.op)))[j]'(by omega)):=Nf _
  refine ⟨_,hr, ?_⟩
  have:=(YE (l.map (·.op)) 0 j).2 i0.op _ (by simp [aj]) (show (QG.go 0 (l.map (·.op)))[j]? = _ from hr)
  refine ⟨fun H=>?_,this.2⟩
  obtain ⟨k,k1,k2,k3⟩:=this.1 H
  exact ⟨k,k1,by rw [<-hn];simpa [QG] using k3⟩
 have getD:∀(j:Nat) r,(QG (l.map (·.op)))[j]? = some r->(QG (l.map (·.op))).getD j none=r:=fun j r h=>by
  rw [Na,h];rfl
 have lt:∀(j k:Nat),(QG (l.map (·.op))).getD j none=some k->k<n:=fun j k h=>by
  by_cases hj:j<l.length
  ·obtain ⟨r,r1,r2,r3⟩:=rk j _ (Nf hj)
   rw [getD j r r1] at h
   subst h
   cases H:makes l[j].op with
   | true=>obtain ⟨k',k1,k2⟩:=r2 H;simp at k1;omega
   | false=>have:=r3 H;cases this
  ·rw [Na,Nv (by omega)] at h;cases h
 have v:=fun A i B h=>Nag (ops:=ops) ord [] ai A i B h
 simp only [N6] at v
 simp only [Npq,Nq] at N
 obtain ⟨⟨a8,a9⟩,ba⟩:=N
 have K:=ZM ba
 refine ⟨by rw [<-hL];simp [al],fun i=>⟨fun hi=>by simpa using N2.1 a8 i hi,fun hi=>by simpa using N2.1 a9 i (by simpa using hi)⟩,K,v,fun j o i ho hi=>?_,fun j i hi=>?_,fun A i B W j ag x y hx hy w1=>?_,fun j i r hi hr=>?_,fun j i r hi hr=>?_,fun i j x y r hx hy h1 h2=>?_⟩
 ·obtain ⟨i0,h1,rfl⟩:=get j i hi
  obtain ⟨z,R,S,T,f3⟩:=ac j i0 h1
  obtain ⟨U,V,g3,_⟩:=Ur l (QG (l.map (·.op))) (QT ops (QG (l.map (·.op))) j i0)
  refine ⟨z,ad j o z (by simpa using ho) R,by rw [U];exact S,by rw [V];exact T,by rw [g3];exact f3, ?_⟩
  have:=N2.1 an z (Oa R)
  simpa using this
 ·have ae:=hi
  obtain ⟨i0,h1,rfl⟩:=get j i hi
  obtain ⟨r,r1,r2,r3⟩:=rk j i0 h1
  obtain ⟨U,V,g3,g4⟩:=Ur l (QG (l.map (·.op))) (QT ops (QG (l.map (·.op))) j i0)
  refine ⟨fun G=>?_,fun H=>?_,fun H=>(ZX C ae H).imp fun _ h=>h.1⟩
  ·rw [g3] at G
   rw [g4]
   have:¬(kind i0.op=.r\/kind i0.op=.w\/kind i0.op=.n\/kind i0.op=.c):=by
    have a3:kind i0.op=.p\/kind i0.op=.a\/kind i0.op=.s:=G
    rcases a3 with h | h | h<;>rw [h]<;>simp
   simp only [QT,Ni this]
  ·rw [g3] at H
   obtain ⟨k,k1,k2⟩:=r2 H
   have a6:X8 i0.op=false:=by
    cases h:X8 i0.op with
    | false=>rfl
    | true=>have:=(Nra h).2;rw [show makes i0.op=true from H] at this;cases this
   rw [VR (i:=QT ops (QG (l.map (·.op))) j i0) a6]
   exact ⟨k,by simp only [QT];rw [getD j r r1,k1]⟩
 ·have Z:=hx
  have aa:=hy
  obtain ⟨x0,O,rfl⟩:=get j x hx
  obtain ⟨y0,Q,rfl⟩:=get i y hy
  obtain ⟨aq,au,I,av⟩:=Ur l (QG (l.map (·.op))) (QT ops (QG (l.map (·.op))) j x0)
  obtain ⟨aw,ax,J,ay⟩:=Ur l (QG (l.map (·.op))) (QT ops (QG (l.map (·.op))) i y0)
  have t:=YG (ops:=ops) (L:=l) ord [] Y A i B W j (by simpa using ag)
  unfold Nh6 at t
  rw [w1,O,Q] at t
  simp only [Bool.false_or,Nq] at t
  have D:j≠i:=fun e=>by
   subst e
   rw [W] at K
   exact (Qj.1 K).2.2 j ag j Oy rfl
  have w2:waits ops ops.size j i=false:=by
   cases hw:waits ops ops.size j i with
   | false=>rfl
   | true=>
     exfalso
     obtain ⟨A1,A2,rfl⟩:=List.append_of_mem ag
     have:=ZE v _ _ _ hw A1 (A2++i::B) (by rw [W];simp)
     rw [W] at K
     exact (Qj.1 K).2.2 i (Ox _ this) i Oy rfl
  have H:∀{a b:Nat} {a0:AIns} {r:Nat},l[a]? = some a0->a≠b->waits ops ops.size b a=false->(QG (l.map (·.op))).getD a none=some r->r∈(List.range (QG (l.map (·.op))).length).filterMap fun c=>if c≠b/\!waits ops ops.size b c then (QG (l.map (·.op))).getD c none else none:=fun {a b a0 r} ha az hw hr=>by
   have a2:a<(QG (l.map (·.op))).length:=by
    rw [bb];exact (List.getElem?_eq_some_iff.1 ha).1
   exact List.mem_filterMap.2 ⟨a,List.mem_range.2 a2,by rw [Nk ⟨az,by simpa using hw⟩];exact hr⟩
  have apart:∀{a b a' b':AIns},a.dst=a'.dst->a.guard=a'.guard->a.op=a'.op->b.dst=b'.dst->b.guard=b'.guard->b.op=b'.op->Z9 a' b'=true->Z9 a b=true:=fun {a b a' b'} e1 e2 e3 e4 e5 e6 h=>by
   unfold Z9 AIns.looks at h⊢
   rw [e1,e2,e3,e4,e5,e6];exact h
  have ao:∀{k:Kind},k=.r\/k=.w\/k=.n\/k=.c->k=.p\/k=.a\/k=.s->False:=fun h h'=>by
   rcases h with h | h | h | h<;>rw [h] at h'<;>simp at h'
  refine ⟨apart aq au I aw ax J t.1,by rw [I,J];exact t.2,fun G r hr=>?_,fun G r hr=>?_,fun r h1 h2=>?_⟩
  ·cases hS:X8 x0.op with
   | true=>
     rcases (Xo u Z aa D w2 w1 (by rw [I];exact hS) hr).2 with h | h
     ·exact h
     ·exact (ao G h).elim
   | false=>
     rw [VR (i:=QT ops (QG (l.map (·.op))) j x0) hS] at hr
     rw [J] at G
     rw [ay]
     simp only [QT] at hr G⊢
     rw [Nk G]
     exact H O D w1 hr
  ·cases hS:X8 y0.op with
   | true=>
     rcases (Xo u aa Z (Ne.symm D) w1 w2 (by rw [J];exact hS) hr).2 with h | h
     ·exact h
     ·exact (ao G h).elim
   | false=>
     rw [VR (i:=QT ops (QG (l.map (·.op))) i y0) hS] at hr
     rw [I] at G
     rw [av]
     simp only [QT] at hr G⊢
     rw [Nk G]
     exact H Q (Ne.symm D) w2 hr
  ·cases hSx:X8 x0.op with
   | true=>exact (Xo u Z aa D w2 w1 (by rw [I];exact hSx) h1).1 h2
   | false=>
     cases hSy:X8 y0.op with
     | true=>exact (Xo u aa Z (Ne.symm D) w1 w2 (by rw [J];exact hSy) h2).1 h1
     | false=>
       rw [VR (i:=QT ops (QG (l.map (·.op))) j x0) hSx] at h1
       rw [VR (i:=QT ops (QG (l.map (·.op))) i y0) hSy] at h2
       simp only [QT] at h1 h2
       obtain ⟨r1,U,_⟩:=rk j x0 O
       obtain ⟨r2,V,_⟩:=rk i y0 Q
       rw [getD j r1 U] at h1
       rw [getD i r2 V] at h2
       subst h1 h2
       exact D (VE (l.map (·.op)) 0 j i r (by simpa [QG] using U) (by simpa [QG] using V)).1
 ·have ae:=hi
  obtain ⟨i0,h1,rfl⟩:=get j i hi
  obtain ⟨U,V,g3,g4⟩:=Ur l (QG (l.map (·.op))) (QT ops (QG (l.map (·.op))) j i0)
  cases hS:X8 i0.op with
  | true=>
    obtain ⟨r',e,a5⟩:=ZX C ae (by rw [g3];exact hS)
    rw [e] at hr;cases hr
    rw [<-hn];exact a5
  | false=>
    rw [VR (i:=QT ops (QG (l.map (·.op))) j i0) hS] at hr
    exact lt j r hr
 ·obtain ⟨i0,h1,rfl⟩:=get j i hi
  rw [(Ur l (QG (l.map (·.op))) (QT ops (QG (l.map (·.op))) j i0)).2.2.2] at hr
  simp only [QT] at hr
  split at hr
  ·obtain ⟨c,bd,ab⟩:=List.mem_filterMap.1 hr
   split at ab
   ·exact lt c r ab
   ·cases ab
  ·simp at hr
 ·obtain ⟨x0,O,rfl⟩:=get i x hx
  obtain ⟨y0,Q,rfl⟩:=get j y hy
  have made:∀{g:AIns} {k:Nat},(MQ l (QG (l.map (·.op))) (QT ops (QG (l.map (·.op))) k g)).made=some r->(QT ops (QG (l.map (·.op))) k g).dest=some r:=fun {g k} h=>by
   unfold AIns.made at h
   rw [(Ur l (QG (l.map (·.op))) (QT ops (QG (l.map (·.op))) k g)).2.2.1] at h
   cases hS:X8 g.op with
   | true=>rw [show X8 (QT ops (QG (l.map (·.op))) k g).op=true from hS] at h;cases h
   | false=>
     rw [show X8 (QT ops (QG (l.map (·.op))) k g).op=false from hS] at h
     rw [VR (i:=QT ops (QG (l.map (·.op))) k g) hS] at h
     exact h
  replace h1:=made h1
  replace h2:=made h2
  simp only [QT] at h1 h2
  obtain ⟨r1,U,_⟩:=rk i x0 O
  obtain ⟨r2,V,_⟩:=rk j y0 Q
  rw [getD i r1 U] at h1
  rw [getD j r2 V] at h2
  subst h1 h2
  exact (VE (l.map (·.op)) 0 i j r (by simpa [QG] using U) (by simpa [QG] using V)).1
theorem Njj {ops:Array Oper} {n:Nat} {M:List AIns} (h:UR P pureF ops=some (.drawn n M)):∃ord L,Plan P pureF ops n ord L/\M=ord.map fun j=>L.getD j default:=by
 unfold UR at h
 split at h
 ·rename_i c hc
  cases h
  exact ZZ hc
 ·exact ZZ h
theorem Zu {i:AIns} {r:Nat} (h:i.made=some r):i.dest=some r:=by
 unfold AIns.made at h
 split at h
 ·cases h
 ·exact h
end
section
variable {P:Program} {pf pureF:FuncId->Bool} {C:TH} {ds:List Deferred} {ro:Option Nat}
structure Todo (ops:Array Oper) (ord:List Nat) (listed:Array Bool) (τ:List Nat):Prop where
 mem:∀i,i∈τ↔i<ops.size/\listed.getD i true=false
 sub:τ.Sublist ord
 size:listed.size=ops.size
 closed:∀(i:Nat) o,ops[i]? = some o->listed.getD i false=true->∀e∈o.after.toList,Region.binds .any e=true->listed.getD e.on false=true
theorem getD_both {listed:Array Bool} {i n:Nat} (a:listed.size=n) (hi:i<n):listed.getD i false=listed.getD i true:=by
 rw [Nw,Nw,Nu (by omega)]
 rfl
theorem Nc7 (hC:CallOk (Prg.mk P pf) C) {ops:Array Oper} {n:Nat} {ord:List Nat} {L:List AIns} (pl:Plan P pureF ops n ord L) {N base:Nat} {Q:Exit->Act->World->Prop} (fr':Nat->Value) (H':NB) (W:Nat->Prop) (lim:Nat) (V:lim<=base) (O:PQ) (H0:NB) (w0:World)
  (hQ:∀a w σ,State (Prg.mk P pf) ds W lim σ N fr' H' a w->Stp W w0 w->PQ.le O σ->Grow lim H0 H'->(∀j,σ j≠O j->base<=j)->H0.length<=H'.length->Q .normal a w) :
  ∀(fuel:Nat) (listed:Array Bool) (τ:List Nat) (fr:Nat->Value) (H:NB) (a:Act) (w:World) (σ:PQ),τ.length=fuel->Todo ops ord listed τ->State (Prg.mk P pf) ds W lim σ N fr H a w->Stp W w0 w->PQ.le O σ->Grow lim H0 H->(∀j,σ j≠O j->base<=j)->H0.length<=H.length->
   Kept σ H base n (τ.filterMap fun i=>(L.getD i default).made)->Xg C N lim (some base) (τ.map fun i=>L.getD i default) fr H=some (fr',H')->wpAnyIn (WF ro) 0 P .any ops Q fuel listed a w
 | 0,listed,τ,fr,H,a,w,σ,hf,ht,hst,h1,h2,h3,R,h5,hk,K=>by
   have hτ:τ=[]:=List.length_eq_zero_iff.1 hf
   subst hτ
   simp [Xg] at K
   obtain ⟨rfl,rfl⟩:=K
   refine ⟨?_,hQ a w σ hst h1 h2 h3 R h5⟩
   rw [List.eq_nil_iff_forall_not_mem]
   intro i hi
   have:=Zp.1 hi
   have:=(ht.mem i).2 ⟨this.1,this.2.1⟩
   cases this
 | fuel+1,listed,τ,fr,H,a,w,σ,hf,ht,hst,h1,h2,h3,R,h5,hk,K=>by
   refine ⟨fun hr=>?_,fun i hi=>?_⟩
   ·
    exfalso
    cases τ with
    | nil=>simp at hf
    | cons t τ=>
      have aa:=(ht.mem t).1 Oy
      have:t∈Region.ready .any ops listed:=Zp.2 ⟨aa.1,aa.2,fun o ho e he hb=>by
       cases hc:listed.getD e.on true with
       | true=>rw [getD_both ht.size ((pl.mem _).1 (by
         obtain ⟨E,M,c,h1,h2⟩:=List.cons_sublist_iff.1 ht.sub
         obtain ⟨u,v,rfl⟩:=List.append_of_mem h1
         have:=pl.back u t (v++M) (by rw [c];simp) o ho e he hb
         rw [c];simp [this]))];exact hc
       | false=>
         exfalso
         obtain ⟨E,M,c,h1,h2⟩:=List.cons_sublist_iff.1 ht.sub
         obtain ⟨u,v,rfl⟩:=List.append_of_mem h1
         have hu:=pl.back u t (v++M) (by rw [c];simp) o ho e he hb
         have ac:e.on<ops.size:=(pl.mem _).1 (by rw [c];simp [hu])
         have X:=pl.nodup
         rw [c,Nl] at X
         have hd:=(Qj.1 X).2.2 e.on hu
         have y:=(ht.mem e.on).2 ⟨ac,hc⟩
         rcases Nh.1 y with h | h
         ·exact hd t (by simp) h
         ·exact hd e.on (by simp [h2.subset h]) rfl⟩
      rw [hr] at this
      cases this
   ·obtain ⟨E,M,r3⟩:=Zp.1 hi
    have U:=(ht.mem i).2 ⟨E,M⟩
    obtain ⟨A,B,rfl⟩:=List.append_of_mem U
    have ad:i<L.length:=by rw [pl.len];exact E
    have g:L[i]? = some (L.getD i default):=by rw [Na,Nf ad];rfl
    have D:∃A1 B1,ord=A1++i::B1/\A.Sublist A1:=by
     obtain ⟨E,M,h1,h2,h3⟩:=List.append_sublist_iff.1 ht.sub
     obtain ⟨s1,s2,R,h5,h6⟩:=List.cons_sublist_iff.1 h3
     obtain ⟨u,v,rfl⟩:=List.append_of_mem h5
     exact ⟨E++u,v++s2,by rw [h1,R];simp,h2.trans (List.sublist_append_left _ _)⟩
    obtain ⟨A1,B1,Y,ab⟩:=D
    have F:(A++i::B).Nodup:=ht.sub.nodup pl.nodup
    have hA:∀b∈A,Planned (L.getD b default)/\Sep (L.getD b default) (L.getD i default):=fun b hb=>by
     have d:=(ht.mem b).1 (Ox _ hb)
     have k:b<L.length:=by rw [pl.len];exact d.1
     have f:L[b]? = some (L.getD b default):=by rw [Na,Nf k];rfl
     refine ⟨pl.planned b _ f,pl.sep A1 i B1 Y b (ab.subset hb) _ _ f g ?_⟩
     cases hw:waits ops ops.size i b with
     | false=>rfl
     | true=>
       exfalso
       have key:∀m,waits ops m i b=true->listed.getD b false=true:=by
        intro m y
        cases m with
        | zero=>simp [waits] at y
        | succ m=>
          unfold waits at y
          split at y
          ·rename_i o ho
           obtain ⟨e,he,h2⟩:=List.any_eq_true.1 y
           simp only [Nq,Bool.or_eq_true,beq_iff_eq] at h2
           have T:=r3 o ho e he h2.1
           rcases h2.2 with h3 | h3
           ·rw [<-h3];exact T
           ·exact Y0 ht.closed m e.on b T h3
          ·cases y
       have:=key _ hw
       rw [getD_both ht.size d.1,d.2] at this
       cases this
    have S:=Nr5 (N:=N) (lim:=lim) (base:=base) hC.toCallOk0 (pl.planned i _ g) (B.map fun i=>L.getD i default) (A.map fun i=>L.getD i default) fr H _ hst.lim (fun r hr=>by have:=pl.dest i _ r g hr;have:=hk.len;omega) (fun x K=>by
     obtain ⟨b,hb,rfl⟩:=List.mem_map.1 K
     refine ⟨hA b hb,fun r hr=>?_⟩
     have d:=(ht.mem b).1 (Ox _ hb)
     have k:b<L.length:=by rw [pl.len];exact d.1
     have f:L[b]? = some (L.getD b default):=by rw [Na,Nf k];rfl
     have:=pl.dest b _ r f hr
     have:=hk.len
     omega) (by simpa using K)
    obtain ⟨fr1,H1,aj,ak⟩:=VI S
    have G:ops[i]? = some ops[i]:=Nu E
    obtain ⟨i0,ai,e1,e2,e3,e4⟩:=pl.ins i _ _ G g
    refine Nt7 hC G ai ⟨e1,e2,e3⟩ e4 hst V hk (fun r hr=>⟨List.mem_filterMap.2 ⟨i,U,hr⟩,pl.dest i _ r g (Zu hr)⟩) (fun r hr=>pl.mask i _ r g hr) aj fun σ' a' w' q1 q2 q3 q4 q5 q6 q7=>?_
    have q:i∉A:=fun h=>(Qj.1 F).2.2 i h i Oy rfl
    have s:i∉B:=(List.nodup_cons.1 (Qj.1 F).2.1).1
    have Z:∀j,(listed.setIfInBounds i true).getD j true=if j=i then true else listed.getD j true:=fun j=>by
     rw [Nw,Nw]
     by_cases l:j=i
     ·subst l
      rw [Nk rfl,Array.getElem?_setIfInBounds_self_of_lt (by rw [ht.size];exact E)];rfl
     ·rw [Ni l,Pq (fun h=>l h.symm)]
    have I:∀j,(listed.setIfInBounds i true).getD j false=if j=i then true else listed.getD j false:=fun j=>by
     rw [Nw,Nw]
     by_cases l:j=i
     ·subst l
      rw [Nk rfl,Array.getElem?_setIfInBounds_self_of_lt (by rw [ht.size];exact E)];rfl
     ·rw [Ni l,Pq (fun h=>l h.symm)]
    have ah:Todo ops ord (listed.setIfInBounds i true) (A++B):=by
     refine ⟨fun j=>?_, ?_,by simpa using ht.size,fun j o ho hl e he hb=>?_⟩
     ·have y:=ht.mem j
      rw [Z]
      constructor
      ·intro l
       have ag:j∈A++i::B:=by
        rcases Ob.1 l with h | h
        ·exact Ox _ h
        ·exact Pr _ (Od _ h)
       obtain ⟨g1,J⟩:=y.1 ag
       have p:j≠i:=fun e=>by
        subst e
        rcases Ob.1 l with h | h
        ·exact q h
        ·exact s h
       exact ⟨g1,by rw [Ni p];exact J⟩
      ·rintro ⟨g1,J⟩
       by_cases p:j=i
       ·rw [Nk p] at J;cases J
       ·rw [Ni p] at J
        have:=y.2 ⟨g1,J⟩
        rcases Ob.1 this with h | h
        ·exact Ox _ h
        ·rcases Nh.1 h with h | h
         ·exact absurd h p
         ·exact Pr _ h
     ·exact (List.Sublist.append_left (List.sublist_cons_self i B) A).trans ht.sub
     ·rw [I] at hl⊢
      by_cases l:j=i
      ·subst l
       have:=r3 o ho e he hb
       split
       ·rfl
       ·exact this
      ·rw [Ni l] at hl
       have:=ht.closed j o ho hl e he hb
       split
       ·rfl
       ·exact this
    refine Nc7 hC pl fr' H' W lim V O H0 w0 hQ fuel _ (A++B) fr1 H1 a' w' σ' (by simp at hf⊢;omega) ah q1 (h1.trans q2) (PQ.le_trans h2 q3) (h3.trans q4) (fun j l=>?_) (by omega) ⟨q5.len,q5.own,fun r hr=>q5.free r ?_,fun r hr=>?_⟩ (by simpa using ak)
    ·apply Oi
     intro hc
     have e1:σ j=O j:=Oi fun e=>hc (R j e)
     rcases q6 j (fun e=>l (e.trans e1)) with ⟨r,_,h⟩ | h
     ·omega
     ·have:=hk.len;omega
    ·obtain ⟨b,hb,z⟩:=List.mem_filterMap.1 hr
     refine Oo.2 ⟨List.mem_filterMap.2 ⟨b, ?_,z⟩, ?_⟩
     ·rcases Ob.1 hb with h | h
      ·exact Ox _ h
      ·exact Pr _ (Od _ h)
     ·simp only [ne_eq,decide_not,Bool.not_eq_true',decide_eq_false_iff_not]
      intro ae
      have d:b∈A++i::B:=by
       rcases Ob.1 hb with h | h
       ·exact Ox _ h
       ·exact Pr _ (Od _ h)
      have k:b<L.length:=by rw [pl.len];exact ((ht.mem b).1 d).1
      have f:L[b]? = some (L.getD b default):=by rw [Na,Nf k];rfl
      have:=pl.inj b i _ _ r f g z ae
      subst this
      rcases Ob.1 hb with h | h
      ·exact q h
      ·exact s h
    ·obtain ⟨b,hb,z⟩:=List.mem_filterMap.1 hr
     have d:b∈A++i::B:=by
      rcases Ob.1 hb with h | h
      ·exact Ox _ h
      ·exact Pr _ (Od _ h)
     have k:b<L.length:=by rw [pl.len];exact ((ht.mem b).1 d).1
     have f:L[b]? = some (L.getD b default):=by rw [Na,Nf k];rfl
     exact pl.dest b _ r f (Zu z)
end
end Go.AM


