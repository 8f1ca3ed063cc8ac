/-
  Joined texts, 2 of 9. A part of the claim that the last text states.
-/
import Derived.RangeFuncRecord
import Derived.OrdersIn
import Derived.Test.YtkppjkkkdpcgiaaGreatPE1
set_option linter.unusedVariables false
set_option linter.unusedSimpArgs false
set_option linter.defProp false
set_option linter.unusedSectionVars false
set_option maxRecDepth 100000
set_option maxHeartbeats 4000000
namespace Go.AM
open Go.MapKept
section
variable {P:Program} {pureF:FuncId->Bool} {Pg:Prg} {W:Nat->Prop} {lim:Nat} {σ:PK} {H H':NE} {w:World} {dest:Option Nat} {ρ ρ':Operand->Value} {v:Value}
theorem NZ {α β:Type} {x:Option α} {f:α->Option β} {b:β} (h:(x >>= f)=some b):∃a,x=some a/\f a=some b:=by
 cases x with
 | none=>cases h
 | some a=>exact ⟨a,rfl,h⟩
theorem Nar (w:World) (st j ty e:TypeId) (i:TypeInfo) (z:Value) {r:IntKind} (o:P.underlying st=some (.slice e)) (p:P.underlying j=some (.int r)) (hi:P.info? e=some i) (q:i.zero=some z)
  (h:z.cells.size=i.size) (g:i.size≠0) (k:IntKind) (l:Int) (t:0<l) (a:l*i.bytes<=140737488355328) (m:l<2 ^ 62) :
  (Builtin.append_ #[st,j] ty #[.slice none 0 0,.int k l]).run P w =
   .ok (.slice (some ⟨w.heap.size,0,none⟩) l.toNat (grownCap w l.toNat 0 e))
    (w.drew.alloc (.cells (madeCells z.cells (l.toNat*i.size)++Builtin.zeroCells z.cells (grownCap w l.toNat 0 e-l.toNat)) e)):=by
 have s:IntKind.i64.wrap l=l:=by rw [IntKind.wrap_i64];omega
 obtain ⟨n,rfl⟩:∃n:Nat,l=n:=⟨l.toNat,by omega⟩
 have n1:¬(n:Int)<0:=by omega
 have d:n*i.bytes<=140737488355328:=by rw [<-Int.natCast_mul] at a;omega
 have n2:¬(281474976710656<(n:Int)*i.bytes):=by omega
 have hn:¬(n=0):=by omega
 have c:¬(9223372036854775807<(n:Int)):=by omega
 have b:¬(281474976710656<Builtin.nextslicecap n 0*i.bytes):=by
  have:=growslice_fits (need:=n) (old:=0) (bytes:=i.bytes) (by omega) d;omega
 have f:¬(n*i.size=0):=by rw [Nat.mul_eq_zero];omega
 simp [Builtin.append_,run_underlying o,run_underlying p,asInt,asIntOf,sizeOf,typeInfo,zeroValue,hi,q,s,n1,n2,hn,c,b,f,g,Question.forced,Builtin.firstCells,newRow,grownCap,madeCells,h,Builtin.zeroCells]
theorem Nf4 (f:Inv Pg W lim σ H w) (hd:∀d,dest=some d->d<H.length/\σ d=none) {st R ty e:TypeId} {V:IntKind} (T:P.underlying st=some (.slice e)) (N:P.underlying R=some (.int V))
  {esz bytes:Nat} (F:PE P e=some esz) (E:Vl P e=some bytes) {z:List Value} (U:zeroOf P e=some z) (O:z.length=esz) (D:esz≠0) {os A:Operand}
  (hs:VRel σ (ρ os) (ρ' os)) (u:VRel σ (ρ A) (ρ' A)) (p:NJ lim dest (.growNil esz bytes z os A) ρ H=some (v,H')) {run:Result Next}
  (t:run=((Builtin.append_ #[st,R] ty #[ρ' os,ρ' A]).run P w).andThen fun v w'=>.ok (.value v) w'):OE Pg W lim σ dest H w run v H':=by
 obtain ⟨i,a,hi,Q,rfl,B⟩:=Ul U
 obtain ⟨Y,r,I⟩:=Za F
 rw [hi] at r;cases r
 obtain ⟨Z,s,G⟩:=Mf E
 rw [hi] at s;cases s
 subst I G
 have x:a.cells.size=i.size:=by simpa using O
 simp only [NJ] at p
 split at p
 case h_2=>cases p
 rename_i X l M hl
 split at p
 case isFalse=>cases p
 rename_i C
 obtain ⟨b1,b2,b3⟩:=C
 cases hp:place dest (.cells false ((List.range (l.toNat*i.size)).map fun j=>a.cells.toList.getD (j % a.cells.toList.length) undef)) H with
 | mk k K=>
 rw [hp] at p
 cases p
 rw [M] at hs;rw [hl] at u
 obtain ⟨_,_,L⟩:=hs.nilslice_left
 have S:=Nar (P:=P) w st R ty e i a T N hi Q x D X l b1 (by omega) b3
 have q:=grownCap_ge w l.toNat 0 e
 have b:∀j,VRel σ (a.cells.toList.getD (j % a.cells.toList.length) undef) (a.cells[j % a.cells.size]!)/\(a.cells[j % a.cells.size]!).oneCell'=true:=fun j=>by
  have g:j % a.cells.size<a.cells.size:=P1 _ (by omega)
  have e1:a.cells.toList.getD (j % a.cells.toList.length) undef=a.cells[j % a.cells.size]:=by
   rw [Na,Array.length_toList,Array.getElem?_toList,N9 g];rfl
  have e2:a.cells[j % a.cells.size]! = a.cells[j % a.cells.size]:=by simp [g]
  rw [e1,e2]
  have:=B _ (Array.mem_toList_iff.2 (Array.getElem_mem g))
  exact ⟨.atom this.1,this.2⟩
 have o:(madeCells a.cells (l.toNat*i.size)++Builtin.zeroCells a.cells (grownCap w l.toNat 0 e-l.toNat)).size=grownCap w l.toNat 0 e*i.size:=by
  rw [Array.size_append,size_zeroCells,size_madeCells,x,<-Ps];congr 1;omega
 refine OE.made f hd hp (cs:=madeCells a.cells (l.toNat*i.size)++Builtin.zeroCells a.cells (grownCap w l.toNat 0 e-l.toNat)) (el:=e) (fun j y g=>?_) ?_ f.drew (Stp.drew) (v':=.slice (some ⟨w.heap.size,0,none⟩) l.toNat (grownCap w l.toNat 0 e)) ?_ ?_
 ·rw [O2] at g
  simp only [Nc] at g
  obtain ⟨j',h,rfl⟩:=g
  have m:j<l.toNat*i.size:=by simpa using (List.getElem?_eq_some_iff.1 h).1
  rw [List.getElem?_range m] at h
  cases h
  refine ⟨a.cells[j % a.cells.size]!, ?_,(b j).1,(b j).2⟩
  rw [Array.getElem?_append_left (by rw [size_madeCells];exact m)]
  simp [madeCells,m]
 ·rw [o];simp only [Nu,O7];exact O6 _ q
 ·rw [t,L,u.int_left,S];rfl
 ·have J:0+grownCap w l.toNat 0 e*i.size<=(madeCells a.cells (l.toNat*i.size)++Builtin.zeroCells a.cells (grownCap w l.toNat 0 e-l.toNat)).size:=by omega
  have:=VRel.lslice (σ:=σ.put k ⟨w.drew.heap.size,0,(madeCells a.cells (l.toNat*i.size)++Builtin.zeroCells a.cells (grownCap w l.toNat 0 e-l.toNat)).size⟩) (i:=k) (k:=0) (n:=l.toNat) (e:=i.size) (c:=grownCap w l.toNat 0 e) PK.put_same q J
  simpa using this
theorem Nf9 {M:Bool} {o:Oper} {c:Call} (K:o.op=.call c) {b:Builtin} (S:c.callee=.builtin b) {Z:AOp} (f:Naj P pureF M o=some Z) (g:Inv Pg W lim σ H w)
  (hρ:∀x,PT x=true->VRel σ (ρ x) (ρ' x)) (hd:∀d,dest=some d->d<H.length/\σ d=none) (i:NJ lim dest Z ρ H=some (v,H')):OE Pg W lim σ dest H w ((execOp ρ' o).run P w) v H':=by
 have p:=Ni8 (ρ':=ρ') o c b K S
 unfold Naj at f
 split at f
 ·cases f
 rename_i Q
 simp only [Bool.not_eq_true,Bool.not_eq_false'] at Q
 have l:∀x∈c.args.toList,VRel σ (ρ x) (ρ' x):=fun x i=>hρ x (Nk3 (by simpa using Q) (by
  rw [K];simp only [Op.operands,Call.operands,S];simpa using i))
 rw [K] at f
 simp only [S] at f
 cases b<;>simp only at f<;>try (cases f;done)
 case append=>
  split at f
  case h_2=>cases f
  rename_i s x st xt e1 e2
  have N:c.argTypes=#[st,xt]:=by apply Array.ext';simpa using e2
  have hs:=l s (by simp [e1])
  have j:=l x (by simp [e1])
  have G:∀(ty:TypeId),(execOp ρ' o).run P w=((Builtin.append_ #[st,xt] o.type #[ρ' s,ρ' x]).run P w).andThen fun v w'=>.ok (.value v) w':=by
   intro _
   rw [p,Nfi e1,N]
   simp [builtin]
  split at f
  ·rename_i e e' D E
   obtain ⟨n,hn,f⟩:=NZ f
   obtain ⟨bb,B,f⟩:=NZ f
   obtain ⟨z,F,f⟩:=NZ f
   split at f
   case isFalse=>cases f
   rename_i A
   cases f
   simp only [NJ] at i
   exact Nad g hd (ty:=o.type) D (str:=false) (by simpa using ⟨_,E⟩) hn B F A hs j i (G 0)
  ·rename_i e D E
   obtain ⟨n,hn,f⟩:=NZ f
   obtain ⟨bb,B,f⟩:=NZ f
   obtain ⟨z,F,f⟩:=NZ f
   split at f
   case isFalse=>cases f
   rename_i A
   cases f
   simp only [NJ] at i
   exact Nad g hd (ty:=o.type) D (str:=true) (by simpa using ⟨E,A.2⟩) hn B F A.1 hs j i (G 0)
  ·rename_i e kd D E
   obtain ⟨n,hn,f⟩:=NZ f
   obtain ⟨bb,B,f⟩:=NZ f
   obtain ⟨z,F,f⟩:=NZ f
   split at f
   case isFalse=>cases f
   rename_i A
   cases f
   exact Nf4 g hd D E hn B F A.1 A.2 hs j i (G 0)
  ·cases f
 case copy=>
  split at f
  case h_2=>cases f
  rename_i d x dt rest e1 e2
  split at f
  case h_2=>cases f
  rename_i e q
  simp only [Nc] at f
  obtain ⟨n,hn,rfl⟩:=f
  obtain ⟨w',v',q1,q2,q3,R,q5⟩:=Np7 (P:=P) (ty:=o.type) g (Xc e2) q hn (l d (by simp [e1])) (l x (by simp [e1])) i
  refine OE.wrote g (nx:=.value v') ?_ rfl q2 q3 R q5
  rw [p,Nfi e1]
  exact RZ _ _ _ _ _ _ rfl q1
 case clear=>
  split at f
  case h_2=>cases f
  rename_i x t rest e1 e2
  split at f
  case h_2=>cases f
  rename_i e q
  simp only [Nc] at f
  obtain ⟨z,F,rfl⟩:=f
  obtain ⟨w',q1,rfl,q2,q3,R⟩:=Nmn (P:=P) (ty:=o.type) g (Xc e2) q F (l x (by simp [e1])) i
  refine OE.wrote g (nx:=.value (.tuple #[])) ?_ rfl (.atom rfl) q2 q3 R
  rw [p,Xy e1]
  exact RZ _ _ _ _ _ _ rfl q1
 case delete=>
  split at f
  case h_2=>cases f
  rename_i m k t rest e1 e2
  split at f
  case h_2=>cases f
  rename_i kt e q
  simp only [Nc] at f
  obtain ⟨kk,hk,rfl⟩:=f
  obtain ⟨w',q1,q2,q3,R,rfl⟩:=Np5 (P:=P) (ty:=o.type) g q hk (l m (by simp [e1])) (l k (by simp [e1])) i (Xc e2)
  refine OE.wrote g (nx:=.value (.tuple #[])) ?_ rfl (.atom rfl) q2 q3 R
  rw [p,Nfi e1]
  exact RZ _ _ _ _ _ _ rfl q1
 case cap=>
  split at f
  case h_2=>cases f
  rename_i x t e1 e2
  have j:=l x (by simp [e1])
  have I:c.argTypes[0]? = some t:=Xc e2
  split at f
  ·rename_i e q
   cases f
   simp only [NJ] at i
   split at i
   case h_2=>cases i
   rename_i a n cc hs
   split at i
   case isFalse=>cases i
   rename_i C
   cases i
   rw [hs] at j
   have:∃a' n',ρ' x=.slice a' n' cc:=by
    cases a with
    | none=>obtain ⟨rfl,rfl,h⟩:=j.nilslice_left;exact ⟨_,_,h⟩
    | some a=>
      obtain ⟨_,L,_,⟨_,h⟩ | ⟨e',U,_,_,_,h⟩ | ⟨_,T,rfl,h⟩⟩:=j.slice_left
      ·exact ⟨_,_,h⟩
      ·exfalso;rw [U] at C;unfold loose at C;omega
      ·rcases T with rfl | ⟨e',rfl⟩
       ·exact ⟨_,_,h⟩
       ·exfalso;unfold loose at C;omega
   obtain ⟨a',n',h⟩:=this
   refine OE.plain g (v':=.int .i64 cc) ?_ (.atom rfl)
   rw [p,Xy e1]
   refine RZ _ _ _ _ _ _ rfl ?_
   rw [h]
   simp [Builtin.cap_,I,run_underlying q,goInt]
  ·cases f
 case len=>
  split at f
  case h_2=>cases f
  rename_i x t e1 e2
  have j:=l x (by simp [e1])
  have I:c.argTypes[0]? = some t:=Xc e2
  split at f
  ·rename_i q
   cases f
   simp only [NJ] at i
   split at i
   case h_2=>cases i
   rename_i s hs
   cases i
   rw [hs] at j
   refine OE.plain g (v':=.int .i64 s.size) ?_ (.atom rfl)
   rw [p,Xy e1]
   exact RZ _ _ _ _ _ _ rfl ((Nit I).1 q s j.string_left)
  ·rename_i e q
   cases f
   simp only [NJ] at i
   split at i
   case h_2=>cases i
   rename_i a n cc hs
   cases i
   rw [hs] at j
   have:∃a' c',ρ' x=.slice a' n c':=by
    cases a with
    | none=>obtain ⟨rfl,rfl,h⟩:=j.nilslice_left;exact ⟨_,_,h⟩
    | some a=>
      obtain ⟨_,L,_,⟨_,h⟩ | ⟨_,_,_,_,_,h⟩ | ⟨_,_,rfl,h⟩⟩:=j.slice_left
      ·exact ⟨_,_,h⟩
      ·exact ⟨_,_,h⟩
      ·exact ⟨_,_,h⟩
   obtain ⟨a',c',h⟩:=this
   refine OE.plain g (v':=.int .i64 n) ?_ (.atom rfl)
   rw [p,Xy e1]
   exact RZ _ _ _ _ _ _ rfl ((Nit I).2.1 ⟨e,q⟩ _ _ _ h)
  ·rename_i k e q
   cases f
   simp only [NJ,Nc,Prod.mk.injEq] at i
   obtain ⟨es,V,rfl,rfl⟩:=i
   refine OE.plain g (v':=.int .i64 es.length) ?_ (.atom rfl)
   rw [p,Xy e1]
   refine RZ _ _ _ _ _ _ rfl ?_
   rcases g.entries j V with ⟨J,rfl⟩ | ⟨r,L,ents,clock,ab,B,hL,J,hh,O,aa⟩
   ·rw [J];simp [Builtin.len_,I,run_underlying q,goInt]
   ·rw [J];simp [Builtin.len_,I,run_underlying q,MapKept.run_getObj_map hh,goInt,O]
  ·rename_i n e q
   cases f
   simp only [NJ] at i
   cases i
   refine OE.plain g (v':=.int .i64 n) ?_ (.atom rfl)
   rw [p,Xy e1]
   exact RZ _ _ _ _ _ _ rfl ((Nit I).2.2 n e q)
  ·cases f
 case max=>
  cases f
  simp only [NJ] at i
  split at i
  ·cases i
  rename_i x r u
  simp only [Nc,Prod.mk.injEq] at i
  obtain ⟨z,F,rfl,rfl⟩:=i
  obtain ⟨Y,h1,h2⟩:=Vo (P:=P) (w:=w) (σ:=σ) true (r.map ρ) (r.map ρ') (ρ x) (ρ' x) z (l x (by simp [u])) (VF fun y X=>l y (by simp [u,X])) F
  refine OE.plain g (v':=Y) ?_ h2
  rw [p]
  refine RZ _ _ _ _ _ _ rfl ?_
  have:(c.args.map ρ').toList=ρ' x::r.map ρ':=by simp [u]
  unfold Builtin.max_
  rw [this]
  exact h1
 case min=>
  cases f
  simp only [NJ] at i
  split at i
  ·cases i
  rename_i x r u
  simp only [Nc,Prod.mk.injEq] at i
  obtain ⟨z,F,rfl,rfl⟩:=i
  obtain ⟨Y,h1,h2⟩:=Vo (P:=P) (w:=w) (σ:=σ) false (r.map ρ) (r.map ρ') (ρ x) (ρ' x) z (l x (by simp [u])) (VF fun y X=>l y (by simp [u,X])) F
  refine OE.plain g (v':=Y) ?_ h2
  rw [p]
  refine RZ _ _ _ _ _ _ rfl ?_
  have:(c.args.map ρ').toList=ρ' x::r.map ρ':=by simp [u]
  unfold Builtin.min_
  rw [this]
  exact h1
theorem Nvt {ac:Bool} {o:Oper} {ao:AOp} (g:Naj P pureF ac o=some ao) (A:Inv Pg W lim σ H w) (hρ:∀x,PT x=true->VRel σ (ρ x) (ρ' x)) (hd:∀d,dest=some d->d<H.length/\σ d=none)
  (u:NJ lim dest ao ρ H=some (v,H')):OE Pg W lim σ dest H w ((execOp ρ' o).run P w) v H':=by
 obtain ⟨dst,op,type,pos,after,guard⟩:=o
 by_cases S:∃c,op=.call c
 ·obtain ⟨c,rfl⟩:=S
  by_cases O:∃b,c.callee=.builtin b
  ·obtain ⟨b,O⟩:=O
   exact Nf9 (o:=⟨dst,.call c,type,pos,after,guard⟩) rfl O g A hρ hd u
  ·unfold Naj at g
   split at g
   ·cases g
   simp only at g
   cases hc:c.callee with
   | builtin b=>exact absurd ⟨b,hc⟩ O
   | value f=>rw [hc] at g;simp at g;subst g;simp [NJ] at u
   | invoke r m=>rw [hc] at g;simp at g
 unfold Naj at g
 split at g
 ·cases g
 rename_i ap
 simp only [Bool.not_eq_true,Bool.not_eq_false'] at ap
 have C:∀x∈op.operands,VRel σ (ρ x) (ρ' x):=fun x u=>hρ x (Nk3 (o:=⟨dst,op,type,pos,after,guard⟩) (by simpa using ap) u)
 cases op<;>(try simp only at g)<;>try (cases g;done)
 case call c=>exact absurd ⟨c,rfl⟩ S
 case move x=>
  cases g;simp only [NJ] at u;cases u
  exact OE.plain A (v':=ρ' x) rfl (C x (by simp [Op.operands]))
 case assign x=>
  cases g;simp only [NJ] at u;cases u
  exact OE.plain A (v':=ρ' x) rfl (C x (by simp [Op.operands]))
 case pick c a b=>
  cases g;simp only [NJ] at u
  have hc:=C c (by simp [Op.operands])
  split at u
  ·rename_i h;cases u;rw [h] at hc
   exact OE.plain A (v':=ρ' a) (by simp [execOp,hc.bool_left,asBool]) (C a (by simp [Op.operands]))
  ·rename_i h;cases u;rw [h] at hc
   exact OE.plain A (v':=ρ' b) (by simp [execOp,hc.bool_left,asBool]) (C b (by simp [Op.operands]))
  ·cases u
 case alloc e=>
  simp only [Nc] at g
  obtain ⟨z,X,rfl⟩:=g
  exact Nmy A hd X u _ rfl
 case box e x=>
  cases g
  exact Nvg A hd (C x (by simp [Op.operands])) u _ rfl
 case build t parts=>
  obtain ⟨z,X,g⟩:=NZ g
  split at g
  ·rename_i fs F
   obtain ⟨ps,a0,g⟩:=NZ g
   split at g
   case isFalse=>cases g
   rename_i ah
   cases g
   exact Mg A F X a0 ah hρ u _ rfl
  ·rename_i n e F
   obtain ⟨s,hs,g⟩:=NZ g
   cases g
   exact Naa A F X hs (fun x u=>C x.2 (by simp only [Op.operands];simp;exact ⟨x.1,by simpa using u⟩)) u _ rfl
  ·cases g
 case buildSlice t len parts=>
  split at g
  ·rename_i e F
   obtain ⟨s,hs,g⟩:=NZ g
   obtain ⟨z,X,g⟩:=NZ g
   split at g
   ·cases g
   rename_i E
   cases g
   exact Nbg A hd F X hs (Oe fun h=>E (.inl h)) (fun h=>E (.inr (.inl h))) (Nat.le_of_not_lt fun h=>E (.inr (.inr h)))
    (fun x u=>C x.2 (by simp only [Op.operands];simp;exact ⟨x.1,by simpa using u⟩)) u _ rfl
  ·cases g
 case load t a=>
  obtain ⟨ag,M,g⟩:=NZ g
  have Y:=C a (by simp [Op.operands])
  cases ag with
  | true=>
    simp only [if_true,Nc] at g
    obtain ⟨n,hn,rfl⟩:=g
    simp only [NJ] at u
    split at u
    case h_2=>cases u
    rename_i p hp
    simp only [Nc,Prod.mk.injEq] at u
    obtain ⟨c,hc,rfl,rfl⟩:=u
    rw [hp] at Y
    obtain ⟨L,hL,G,h2⟩:=Y.ptr_left
    obtain ⟨v',R,h4⟩:=Nby (P:=P) A M hn hL hc
    refine OE.plain A (v':=v') ?_ h4
    simp only [execOp]
    refine OW P w _ ?_
    simp [Instr.loadAt,Instr.sureAddr,h2,R]
  | false=>
    simp only [Nx,if_false,Option.some.injEq] at g
    subst g
    simp only [NJ] at u
    split at u
    case h_2=>cases u
    rename_i p hp
    simp only [Nc,Prod.mk.injEq] at u
    obtain ⟨c,hc,rfl,rfl⟩:=u
    rw [hp] at Y
    obtain ⟨L,hL,G,h2⟩:=Y.ptr_left
    obtain ⟨v',R,h4⟩:=Nbz (P:=P) A M hL hc
    refine OE.plain A (v':=v') ?_ h4
    simp only [execOp]
    refine OW P w _ ?_
    simp [Instr.loadAt,Instr.sureAddr,h2,R]
 case store t a x=>
  simp only [Nc] at g
  obtain ⟨n,hn,rfl⟩:=g
  have Y:=C a (by simp [Op.operands])
  have B:=C x (by simp [Op.operands])
  simp only [NJ] at u
  split at u
  case h_2=>cases u
  rename_i p hp
  split at u
  case isFalse=>cases u
  rename_i E
  simp only [Nc,Prod.mk.injEq] at u
  obtain ⟨H2,a2,rfl,rfl⟩:=u
  rw [hp] at Y
  obtain ⟨L,hL,G,h2⟩:=Y.ptr_left
  obtain ⟨w',q1,q2,q3,q4⟩:=A.store (P:=P) hL a2 B.cells (B.cells_one E.2)
  refine OE.wrote A (nx:=.skip) ?_ rfl (.atom rfl) q2 q3 q4
  simp only [execOp]
  refine Ndr P w _ ?_
  have a3:(ρ' x).cells.size=n:=by have:=B.cells.1;simp at this;rw [<-this];exact E.1
  simp [Instr.storeAt,Instr.sureAddr,h2,storeVar,Sc hn,a3,q1]
 case nilCheck x=>
  cases g
  have B:=C x (by simp [Op.operands])
  simp only [NJ] at u
  split at u
  ·rename_i p hp
   cases u
   rw [hp] at B
   obtain ⟨L,hL,G,h2⟩:=B.ptr_left
   exact OE.plain A (v':=ρ' x) (by simp [execOp,h2]) B
  ·rename_i f a b hp
   cases u
   rw [hp] at B
   obtain ⟨c,d,h2,_,_⟩:=B.func_left
   exact OE.plain A (v':=ρ' x) (by simp [execOp,h2]) B
  ·cases u
 case binOp op t x y yt=>
  have B:=C x (by simp [Op.operands])
  have U:=C y (by simp [Op.operands])
  have bin:∀{r},NJ lim dest (.bin op x y) ρ H=some (v,r)->OE Pg W lim σ dest H w ((execOp ρ' ⟨dst,.binOp op t x y yt,type,pos,after,guard⟩).run P w) v r:=by
   intro r u
   simp only [NJ,Nc,Prod.mk.injEq] at u
   obtain ⟨c,hc,rfl,rfl⟩:=u
   have Q:ρ' x=ρ x/\ρ' y=ρ y/\VRel σ c c:=by
    have D:=hc
    unfold NG at D
    split at D
    ·rename_i k a k' b e1 e2
     rw [e1] at B;rw [e2] at U
     refine ⟨by rw [B.int_left,e1],by rw [U.int_left,e2], ?_⟩
     have:atom c=true:=by
      split at D
      ·split at D<;>cases D<;>rfl
      ·split at D<;>cases D<;>rfl
      ·split at D
       ·cases op<;>simp at D<;>first | (subst D;rfl) | (obtain ⟨_,rfl⟩:=D;rfl)
       ·cases D
     exact .atom this
    ·rename_i a b e1 e2
     rw [e1] at B;rw [e2] at U
     refine ⟨by rw [B.string_left,e1],by rw [U.string_left,e2], ?_⟩
     have:atom c=true:=by
      cases op<;>simp at D<;>first | (subst D;rfl) | (obtain ⟨_,rfl⟩:=D;rfl)
     exact .atom this
    ·cases D
   refine OE.plain A (v':=c) ?_ Q.2.2
   simp only [execOp]
   refine OW P w _ ?_
   rw [Q.1,Q.2.1]
   exact Nqp op t x y hc
  have ad:∀{neg:Bool} {k:EqKind} {r},op=(if neg then .neq else .eql)->Uj P t=some k->NJ lim dest (.eqv neg k x y) ρ H=some (v,r)->
    OE Pg W lim σ dest H w ((execOp ρ' ⟨dst,.binOp op t x y yt,type,pos,after,guard⟩).run P w) v r:=by
   intro neg k r aq hk u
   simp only [NJ] at u
   split at u
   case h_2=>cases u
   rename_i b O
   cases u
   refine OE.plain A (v':=.bool (if neg then !b else b)) ?_ (.atom rfl)
   simp only [execOp,aq]
   exact OW P w _ (Nvv w neg hk x y B U O)
  split at g
  ·cases g;exact bin u
  ·cases g;exact bin u
  ·split at g
   ·simp only [Nc] at g
    obtain ⟨k,hk,rfl⟩:=g
    exact ad (neg:=false) rfl hk u
   ·simp only [Nc] at g
    obtain ⟨k,hk,rfl⟩:=g
    exact ad (neg:=true) rfl hk u
   ·cases g
 case unOp op t x=>
  cases g
  have B:=C x (by simp [Op.operands])
  simp only [NJ,Nc,Prod.mk.injEq] at u
  obtain ⟨c,hc,rfl,rfl⟩:=u
  have Q:ρ' x=ρ x/\VRel σ c c:=by
   have D:=hc
   unfold NQ at D
   split at D
   ·rename_i b e1;rw [e1] at B;cases D;exact ⟨by rw [B.bool_left,e1],.atom rfl⟩
   ·rename_i k n e1;rw [e1] at B;cases D;exact ⟨by rw [B.int_left,e1],.atom rfl⟩
   ·rename_i k n e1;rw [e1] at B;cases D;exact ⟨by rw [B.int_left,e1],.atom rfl⟩
   ·cases D
  refine OE.plain A (v':=c) ?_ Q.2
  simp only [execOp]
  refine OW P w _ ?_
  rw [Q.1]
  exact Nvr op hc
 case convert s d x=>
  have B:=C x (by simp [Op.operands])
  split at g
  ·rename_i k' k hs N
   cases g
   simp only [NJ] at u
   split at u
   case h_2=>cases u
   rename_i q n hq
   cases u
   rw [hq] at B
   refine OE.plain A (v':=.int k (k.wrap n)) ?_ (.atom rfl)
   simp only [execOp]
   refine OW P w _ ?_
   rw [B.int_left]
   simp [convert,run_underlying hs,run_underlying N,Conv.intToInt]
  ·rename_i hs N
   cases g
   simp only [NJ] at u
   split at u
   case h_2=>cases u
   rename_i q hq
   cases u
   rw [hq] at B
   refine OE.plain A (v':=.string q) ?_ (.atom rfl)
   simp only [execOp]
   refine OW P w _ ?_
   rw [B.string_left]
   simp [convert,run_underlying hs,run_underlying N]
  rotate_left
  ·rename_i e e' hs N
   split at g
   case h_2=>cases g
   rename_i he
   split at g
   case isFalse=>cases g
   rename_i a1
   cases g
   subst a1
   have ax:e'=e:=by rw [hs] at N;cases N;rfl
   subst ax
   exact Nf1 (o:=⟨dst,.convert s s x,type,pos,after,guard⟩) A hs he B u
  rotate_right
  ·rename_i e hs N
   split at g
   ·rename_i he
    cases g
    obtain ⟨v',q1,q2,rfl⟩:=Nvl (P:=P) A hs he N B u
    refine OE.plain A (v':=v') ?_ q2
    simp only [execOp]
    exact OW P w _ q1
   ·cases g
  ·cases g
 case makeFunc fn first captured=>
  cases fn<;>simp only at g<;>try (cases g;done)
  rename_i f
  cases g
  simp only [NJ] at u
  cases u
  refine OE.plain A (v':=.func (.func f) (first.map ρ') (captured.map ρ')) rfl ?_
  have key:∀(l:Array Operand),(∀x∈l,VRel σ (ρ x) (ρ' x))->∀i (h:i<((l.toList.map ρ).toArray).size) (h':i<(l.map ρ').size),VRel σ ((l.toList.map ρ).toArray)[i] (l.map ρ')[i]:=fun l hl i h h'=>by
   simp only [List.getElem_toArray,Pu,Array.getElem_map,Array.getElem_toList]
   exact hl _ (Array.getElem_mem _)
  exact .func (by simp) (by simp) (key first fun x u=>C x (by simp [Op.operands,u])) (key captured fun x u=>C x (by simp [Op.operands,u]))
 case makeMap t r=>
  split at g
  ·rename_i kt e F
   cases g
   simp only [NJ] at u
   split at u
   case h_2=>cases u
   rename_i hr
   cases hp:place dest (.map []) H with
   | mk k K=>
   rw [hp] at u
   cases u
   obtain ⟨i1,i2⟩:=A.allocMap hp hd
   obtain ⟨g1,g2,g3,g4,g5,g6,g7⟩:=TF hp fun d e=>(hd d e).1
   refine ⟨.value (.map (some w.heap.size)),_,_,_, ?_,rfl,VRel.map PK.put_same,i1,Stp.alloc A.fresh _,PK.le_put i2,fun j Z=>?_,g3,fun aw=>?_⟩
   ·simp only [execOp]
    refine OW P w _ ?_
    cases r with
    | none=>simp [Instr.makeMap]
    | some x=>
      have B:=C x (by simp [Op.operands])
      cases hxx:ρ x<;>simp [hxx] at hr
      rw [hxx] at B
      simp [Instr.makeMap,B.int_left,run_underlying F,asInt,asIntOf]
   ·by_cases e:j=k
    ·subst e
     cases dest with
     | none=>exact .inr ⟨rfl,by rw [g5 rfl];exact Nd _⟩
     | some d=>exact .inl (by rw [(g6 d rfl).1])
    ·simp [PK.put,e] at Z
   ·cases dest with
    | none=>exact absurd rfl aw
    | some d=>exact (g6 d rfl).2
  ·cases g
 case makeInterface t x=>cases g;simp [NJ] at u
 case panic x=>cases g;simp [NJ] at u
 case makeSlice t l c=>
  split at g
  ·rename_i e F
   obtain ⟨s,hs,g⟩:=NZ g
   obtain ⟨bb,O,g⟩:=NZ g
   obtain ⟨z,X,g⟩:=NZ g
   split at g
   ·cases g
   rename_i E
   cases g
   have a6:z.length=s:=Oe fun h=>E (.inl h)
   have ba:s≠0:=fun h=>E (.inr h)
   obtain ⟨i,I,hi,a7,rfl,au⟩:=Ul X
   obtain ⟨i2,aj,az⟩:=Za hs
   rw [hi] at aj;cases aj
   obtain ⟨i3,ak,ay⟩:=Mf O
   rw [hi] at ak;cases ak
   subst az ay
   have am:=C l (by simp [Op.operands])
   have ai:=C c (by simp [Op.operands])
   simp only [NJ] at u
   split at u
   case h_2=>cases u
   rename_i kl ln kc cn hl hc
   split at u
   case isFalse=>cases u
   rename_i av
   obtain ⟨b1,b2,b3,b4⟩:=av
   cases hp:place dest (.cells false ((List.range (cn.toNat*i.size)).map fun j=>I.cells.toList.getD (j % I.cells.toList.length) undef)) H with
   | mk k K=>
   rw [hp] at u
   cases u
   rw [hl] at am;rw [hc] at ai
   have V:∀j,VRel σ (I.cells.toList.getD (j % I.cells.toList.length) undef) (I.cells[j % I.cells.size]!)/\(I.cells[j % I.cells.size]!).oneCell'=true:=fun j=>by
    have Z:j % I.cells.size<I.cells.size:=P1 _ (by simp at a6;omega)
    have e1:I.cells.toList.getD (j % I.cells.toList.length) undef=I.cells[j % I.cells.size]:=by
     rw [Na,Array.length_toList,Array.getElem?_toList,N9 Z];rfl
    have e2:I.cells[j % I.cells.size]! = I.cells[j % I.cells.size]:=by simp [Z]
    rw [e1,e2]
    have:=au _ (Array.mem_toList_iff.2 (Array.getElem_mem Z))
    exact ⟨.atom this.1,this.2⟩
   refine OE.made A hd hp (cs:=madeCells I.cells (cn.toNat*i.size)) (el:=e) (fun j y Z=>?_) (by simp [size_madeCells]) A (Stp.refl _ _) (v':=.slice (some ⟨w.heap.size,0,none⟩) ln.toNat cn.toNat) ?_ ?_
   ·rw [O2] at Z
    simp only [Nc] at Z
    obtain ⟨j',ab,rfl⟩:=Z
    have al:j<cn.toNat*i.size:=by simpa using (List.getElem?_eq_some_iff.1 ab).1
    rw [List.getElem?_range al] at ab
    cases ab
    exact ⟨I.cells[j % I.cells.size]!,by simp [madeCells,al],(V j).1,(V j).2⟩
   ·simp only [execOp]
    refine OW P w _ ?_
    rw [am.int_left,ai.int_left]
    exact run_make w t e i I F hi a7 kl kc ln cn b1 b2 (by rw [Int.mul_comm];omega) (by omega)
   ·have ae:cn.toNat<2 ^ 62:=by omega
    simpa using VRel.slice (σ:=σ.put k ⟨w.heap.size,0,(madeCells I.cells (cn.toNat*i.size)).size⟩) (i:=k) (k:=0) (n:=ln.toNat) PK.put_same ae
  ·cases g
 case slice t x lo hi mx=>
  have B:=C x (by simp [Op.operands])
  have aa:∀y∈lo.toList++hi.toList++mx.toList,VRel σ (ρ y) (ρ' y):=fun y hy=>C y (by
   simp only [Op.operands];simp at hy⊢;rcases hy with h | h | h<;>simp [h])
  split at g
  ·rename_i e F
   obtain ⟨s,hs,g⟩:=NZ g
   split at g
   ·cases g
   cases g
   simp only [NJ,Nc,Prod.mk.injEq] at u
   obtain ⟨c,hc,rfl,rfl⟩:=u
   obtain ⟨v',q1,q2⟩:=Nhy (P:=P) (w:=w) F hs B aa hc
   refine OE.plain A (v':=v') ?_ q2
   simp only [execOp]
   exact OW P w _ q1
  ·rename_i n e F
   obtain ⟨s,hs,g⟩:=NZ g
   split at g
   ·cases g
   cases g
   simp only [NJ] at u
   split at u
   case h_2=>cases u
   rename_i a Y
   split at u
   case h_2=>cases u
   rename_i l h' m O
   split at u
   case isFalse=>cases u
   rename_i ae
   cases u
   rw [Y] at B
   obtain ⟨L,hL,G,h2⟩:=B.ptr_left
   obtain ⟨m',r1,r2,r3,r4,r5,r6,r7⟩:=SX (P:=P) (w:=w) O aa (Nd _) false
   have hm:m'=m:=by
    by_cases e:mx=none
    ·rw [(r2 e).1,(r2 e).2]
    ·exact r3 e
   subst hm
   refine OE.plain A (v':=.slice (some (if m'=l then ⟨L.blk,L.base+a.off,none⟩ else (⟨L.blk,L.base+a.off,none⟩:Addr).add (l*s))) (h'-l) (m'-l)) ?_ ?_
   ·simp only [execOp]
    refine OW P w _ ?_
    rw [h2]
    simp [Instr.sliceAt,run_underlying F,Instr.sureAddr,r1,Sc hs]
   ·split
    ·exact VRel.slice' G hL (by omega)
    ·rw [TI a _ G,TI _ _ rfl]
     have:=VRel.slice (σ:=σ) (i:=a.block) (k:=a.off+l*s) (n:=h'-l) (c:=m'-l) hL (by omega)
     rw [<-O9] at this
     exact this
  ·rename_i F
   split at g
   ·cases g
   rename_i a9
   cases g
   have an:mx=none:=by cases mx<;>simp_all
   subst an
   simp only [NJ] at u
   split at u
   case h_2=>cases u
   rename_i q hq
   split at u
   case h_2=>cases u
   rename_i l h' m O
   cases u
   rw [hq] at B
   obtain ⟨m',r1,r2,r3,r4,r5,r6,r7⟩:=SX (P:=P) (w:=w) O aa (Nd _) false
   refine OE.plain A (v':=.string (q.extract l h')) ?_ (.atom rfl)
   simp only [execOp]
   refine OW P w _ ?_
   rw [B.string_left]
   simp only [On] at r1
   simp [Instr.sliceAt,Instr.slice,run_underlying F,r1]
  ·cases g
 case fieldAddr s x f=>
  have B:=C x (by simp [Op.operands])
  split at g
  ·rename_i fs F
   obtain ⟨fd,hf,g⟩:=NZ g
   obtain ⟨n,hn,g⟩:=NZ g
   split at g
   ·cases g
   rename_i h0
   cases g
   simp only [NJ] at u
   split at u
   case h_2=>cases u
   rename_i p hp
   cases u
   rw [hp] at B
   obtain ⟨L,hL,G,h2⟩:=B.ptr_left
   refine OE.plain A ?_ (VRel.ptr_add hL G fd.offset)
   simp only [execOp]
   refine OW P w _ ?_
   rw [h2]
   exact Nkg F hf hn h0 _
  ·cases g
 case field s x f=>
  have B:=C x (by simp [Op.operands])
  split at g
  ·rename_i fs F
   obtain ⟨fd,hf,g⟩:=NZ g
   obtain ⟨n,hn,g⟩:=NZ g
   obtain ⟨ag,M,g⟩:=NZ g
   cases ag with
   | true=>
     simp only [if_true] at g
     cases g
     simp only [NJ] at u
     split at u
     case h_2=>cases u
     rename_i cs T
     cases u
     rw [T] at B
     obtain ⟨ys,h2,R,h4⟩:=B.agg_left
     refine OE.plain A (v':=.agg (ys.extract fd.offset (fd.offset+n))) ?_ (VRel.agg_iff.2 ⟨?_, ?_⟩)
     ·simp only [execOp]
      refine OW P w _ ?_
      rw [h2]
      simp [Instr.field,run_underlying F,hf,asAgg,Nap M hn]
     ·rw [extract_toList];simpa using (R.drop fd.offset).take n
     ·rw [extract_toList];exact fun y hy=>h4 y (List.mem_of_mem_drop (Rb hy))
   | false=>
     simp only [Nx,if_false] at g
     cases g
     simp only [NJ] at u
     split at u
     case h_2=>cases u
     rename_i cs T
     simp only [Nc,Prod.mk.injEq] at u
     obtain ⟨c,hc,rfl,rfl⟩:=u
     rw [T] at B
     obtain ⟨ys,h2,R,h4⟩:=B.agg_left
     obtain ⟨y,h5,h6⟩:=R.get hc
     refine OE.plain A (v':=y) ?_ h6
     simp only [execOp]
     refine OW P w _ ?_
     rw [h2]
     simp [Instr.field,run_underlying F,hf,asAgg,Naq M (by simpa using h5)]
  ·cases g
 case indexAddr t x ix=>
  have B:=C x (by simp [Op.operands])
  have J:=C ix (by simp [Op.operands])
  split at g
  ·rename_i e F
   obtain ⟨s,hs,g⟩:=NZ g
   cases g
   simp only [NJ] at u
   split at u
   case h_2=>cases u
   rename_i p len cap k n hp hi
   split at u
   case isFalse=>cases u
   rename_i hn
   cases u
   rw [hp] at B;rw [hi] at J
   obtain ⟨G,L,hL,hc⟩:=B.slice_left
   have a5:∃c',ρ' x=.slice (some ⟨L.blk,L.base+p.off,none⟩) len c':=by
    rcases hc with ⟨_,h⟩ | ⟨_,_,_,_,_,h⟩ | ⟨_,_,h0,h⟩
    ·exact ⟨_,h⟩
    ·exact ⟨_,h⟩
    ·rw [h0] at hn;simp at hn;omega
   obtain ⟨c',h2⟩:=a5
   refine OE.plain A ?_ (VRel.ptr_add hL G (n.toNat*s))
   simp only [execOp]
   refine OW P w _ ?_
   rw [h2,J.int_left]
   exact ZT F hs _ len c' k n hn
  ·rename_i len e F
   obtain ⟨s,hs,g⟩:=NZ g
   cases g
   simp only [NJ] at u
   split at u
   case h_2=>cases u
   rename_i p k n hp hi
   split at u
   case isFalse=>cases u
   rename_i hn
   cases u
   rw [hp] at B;rw [hi] at J
   obtain ⟨L,hL,G,h2⟩:=B.ptr_left
   refine OE.plain A ?_ (VRel.ptr_add hL G (n.toNat*s))
   simp only [execOp]
   refine OW P w _ ?_
   rw [h2,J.int_left]
   exact ZU F hs _ k n hn
  ·cases g
 case index t x ix=>
  have B:=C x (by simp [Op.operands])
  have J:=C ix (by simp [Op.operands])
  split at g
  ·rename_i len e F
   obtain ⟨s,hs,g⟩:=NZ g
   obtain ⟨ag,M,g⟩:=NZ g
   cases g
   simp only [NJ] at u
   split at u
   case h_2=>cases u
   rename_i cs k n T hi
   split at u
   case isFalse=>cases u
   rename_i hn
   rw [T] at B;rw [hi] at J
   obtain ⟨ys,h2,R,h4⟩:=B.agg_left
   cases ag with
   | true=>
     simp only [if_true] at u
     cases u
     refine OE.plain A (v':=.agg (ys.extract (n.toNat*s) (n.toNat*s+s))) ?_ (VRel.agg_iff.2 ⟨?_, ?_⟩)
     ·simp only [execOp]
      refine OW P w _ ?_
      rw [h2,J.int_left,Xf F hs ys k n hn]
      exact Nap M hs
     ·rw [extract_toList];simpa using (R.drop (n.toNat*s)).take s
     ·rw [extract_toList];exact fun y hy=>h4 y (List.mem_of_mem_drop (Rb hy))
   | false=>
     simp only [Nx,if_false,Nc,Prod.mk.injEq] at u
     obtain ⟨c,hc,rfl,rfl⟩:=u
     obtain ⟨y,h5,h6⟩:=R.get hc
     refine OE.plain A (v':=y) ?_ h6
     simp only [execOp]
     refine OW P w _ ?_
     rw [h2,J.int_left,Xf F hs ys k n hn]
     exact Naq M (by simpa using h5)
  ·rename_i F
   cases g
   simp only [NJ] at u
   split at u
   case h_2=>cases u
   rename_i q k n hq hi
   split at u
   case isFalse=>cases u
   rename_i hn
   simp only [Nc,Prod.mk.injEq] at u
   obtain ⟨b,O,rfl,rfl⟩:=u
   rw [hq] at B;rw [hi] at J
   refine OE.plain A (v':=.int .u8 b.toNat) ?_ (.atom rfl)
   simp only [execOp]
   refine OW P w _ ?_
   rw [B.string_left,J.int_left]
   exact M3 F q k n hn O
  ·cases g
 case lookup t m k ok=>
  split at g
  ·rename_i kt e F
   obtain ⟨z,X,g⟩:=NZ g
   obtain ⟨kk,hk,g⟩:=NZ g
   cases g
   exact Niq A F hk X (C m (by simp [Op.operands])) (C k (by simp [Op.operands])) u _ rfl
  ·cases g
 case mapUpdate t m k x=>
  split at g
  ·rename_i kt e F
   simp only [Nc] at g
   obtain ⟨kk,hk,rfl⟩:=g
   obtain ⟨w',q1,q2,q3,q4,rfl⟩:=Z7 (P:=P) A F hk (C m (by simp [Op.operands])) (C k (by simp [Op.operands])) (C x (by simp [Op.operands])) u
   refine OE.wrote A (nx:=.skip) ?_ rfl (.atom rfl) q2 q3 q4
   simp only [execOp]
   exact Ndr P w _ q1
  ·cases g
 case insert t m k x=>
  split at g
  ·rename_i kt e F
   simp only [Nc] at g
   obtain ⟨kk,hk,rfl⟩:=g
   obtain ⟨w',q1,q2,q3,q4,rfl⟩:=Z7 (P:=P) A F hk (C m (by simp [Op.operands])) (C k (by simp [Op.operands])) (C x (by simp [Op.operands])) u
   refine OE.wrote A (nx:=.skip) ?_ rfl (.atom rfl) q2 q3 q4
   simp only [execOp]
   exact Ndr P w _ q1
  ·cases g
 case extract x ix=>
  have B:=C x (by simp [Op.operands])
  cases g
  simp only [NJ] at u
  split at u
  case h_2=>cases u
  rename_i vs a4
  simp only [Nc,Prod.mk.injEq] at u
  obtain ⟨c,hc,rfl,rfl⟩:=u
  rw [a4] at B
  obtain ⟨ys,h2,R⟩:=B.tuple_left
  obtain ⟨y,h5,h6⟩:=R.get hc
  refine OE.plain A (v':=y) ?_ h6
  simp only [execOp]
  refine OW P w _ ?_
  rw [h2]
  have ar:ys[ix]? = some y:=by simpa using h5
  simp [Instr.extract,ar]
end
end Go.AM


namespace Go.AM
theorem OX (base:Nat):∀(l:List Nat) (H:NE),(OD base l H).length=H.length
 | [],_=>rfl
 | i::l,H=>by simp only [OD,Oi];exact (OX base l _).trans (by simp)
theorem PH (base:Nat) (H0:NE):∀(l:List Nat) (H:NE),(NY base l H0 H).length=H.length
 | [],_=>rfl
 | i::l,H=>by simp only [NY,Oi];exact (PH base H0 l _).trans (by simp)
theorem QP (base:Nat) {j:Nat}:∀(l:List Nat) (H:NE),(∀i∈l,base+i≠j)->(OD base l H)[j]? = H[j]?
 | [],_,_=>rfl
 | i::l,H,h=>by
   simp only [OD,Oi]
   have:=QP base (j:=j) l (H.set (base+i) .dead) fun k hk=>h k (Nk _ hk)
   simp only [OD] at this
   rw [this,N3,Nh (h i No)]
theorem UV (base:Nat) {j:Nat}:∀(l:List Nat) (H:NE),(∃i∈l,base+i=j)->j<H.length->(OD base l H)[j]? = some .dead
 | [],_,h,_=>by simp at h
 | i::l,H,h,hj=>by
   simp only [OD,Oi]
   by_cases hl:∃k∈l,base+k=j
   ·exact UV base l _ hl (by simpa using hj)
   ·have a:base+i=j:=by
     obtain ⟨k,hk,e⟩:=h
     rcases Np.1 hk with rfl | hk
     ·exact e
     ·exact absurd ⟨k,hk,e⟩ hl
    have:=QP base (j:=j) l (H.set (base+i) .dead) fun k hk e=>hl ⟨k,hk,e⟩
    simp only [OD] at this
    rw [this,N3,Ni a,Ni (by omega)]
theorem Rx (base:Nat) (H0:NE) {j:Nat}:∀(l:List Nat) (H:NE),(∀i∈l,base+i≠j)->(NY base l H0 H)[j]? = H[j]?
 | [],_,_=>rfl
 | i::l,H,h=>by
   simp only [NY,Oi]
   have:=Rx base H0 (j:=j) l (H.set (base+i) (NF H0 (base+i))) fun k hk=>h k (Nk _ hk)
   simp only [NY] at this
   rw [this,N3,Nh (h i No)]
theorem RV (base:Nat) (H0:NE) {j:Nat}:∀(l:List Nat) (H:NE),(∃i∈l,base+i=j)->j<H.length->(NY base l H0 H)[j]? = some (NF H0 j)
 | [],_,h,_=>by simp at h
 | i::l,H,h,hj=>by
   simp only [NY,Oi]
   by_cases hl:∃k∈l,base+k=j
   ·exact RV base H0 l _ hl (by simpa using hj)
   ·have a:base+i=j:=by
     obtain ⟨k,hk,e⟩:=h
     rcases Np.1 hk with rfl | hk
     ·exact e
     ·exact absurd ⟨k,hk,e⟩ hl
    have:=Rx base H0 (j:=j) l (H.set (base+i) (NF H0 (base+i))) fun k hk e=>hl ⟨k,hk,e⟩
    simp only [NY] at this
    rw [this,N3,Ni a,Ni (by omega),a]
theorem MJ {H:NE} {j:Nat} (h:j<H.length):H[j]? = some (NF H j):=by
 unfold NF
 rw [Na,Nf h]
 rfl
theorem SN (base:Nat) (l:List Nat) (H:NE):NY base l H (OD base l H)=H:=by
 apply List.ext_getElem?
 intro j
 by_cases b:j<H.length
 ·by_cases hl:∃i∈l,base+i=j
  ·rw [RV base H l _ hl (by rw [OX];exact b),MJ b]
  ·have a:∀i∈l,base+i≠j:=fun i hi e=>hl ⟨i,hi,e⟩
   rw [Rx base H l _ a,QP base l _ a]
 ·rw [Nw (by rw [PH,OX];omega),Nw (by omega)]
theorem Ny2 (base:Nat) (l:List Nat) (H:NE) {r:Nat} (hr:r∈l) (b:Blk):OD base l (H.set (base+r) b)=OD base l H:=by
 apply List.ext_getElem?
 intro j
 by_cases c:j<H.length
 ·by_cases hl:∃i∈l,base+i=j
  ·rw [UV base l _ hl (by simpa using c),UV base l _ hl c]
  ·have a:∀i∈l,base+i≠j:=fun i hi e=>hl ⟨i,hi,e⟩
   rw [QP base l _ a,QP base l _ a,N3,Nh (a r hr)]
 ·rw [Nw (by rw [OX];simp;omega),Nw (by rw [OX];omega)]
theorem Nju (base:Nat) (l:List Nat) (H X:NE) {r:Nat} (hr:r∈l) (b:Blk) (d:base+r<H.length) (f:H.length<=X.length):NY base l (H.set (base+r) b) X=(NY base l H X).set (base+r) b:=by
 apply List.ext_getElem?
 intro j
 by_cases c:j<X.length
 ·by_cases hl:∃i∈l,base+i=j
  ·rw [RV base _ l X hl c,N3]
   by_cases he:base+r=j
   ·subst he
    rw [Ni rfl,Ni (by rw [PH];exact c)]
    unfold NF
    rw [Na,Q7 d]
    rfl
   ·rw [Nh he,RV base H l X hl c]
    unfold NF
    rw [Na,Qk he,<-Na]
  ·have a:∀i∈l,base+i≠j:=fun i hi e=>hl ⟨i,hi,e⟩
   rw [Rx base _ l X a,Qk (a r hr),Rx base H l X a]
 ·rw [Nw (by rw [PH];omega),Nw (by rw [P3,PH];omega)]
theorem UJ {d:Nat} {b:Blk} {H:NE}:place (some d) b H=(d,H.set d b):=rfl
theorem Ncx {o:AOp} (hk:kind o=.p) (lim:Nat) (dest:Option Nat) (ρ:Operand->Value) (H:NE) :
  NJ lim dest o ρ H=((NJ lim dest o ρ []).map (·.1)).map (·,H):=by
 cases o<;>simp [kind] at hk<;>simp only [NJ]
 case mov=>rfl
 case lenK=>rfl
 case makeFunc=>rfl
 case pick c a b=>cases ρ c<;>first | rfl | (rename_i b;cases b<;>rfl)
 case bin op x y=>cases NG op (ρ x) (ρ y)<;>rfl
 case eqv neg k x y=>cases aEq k (ρ x) (ρ y)<;>rfl
 case un op x=>cases NQ op (ρ x)<;>rfl
 case conv k x=>cases ρ x<;>rfl
 case build z ps=>cases RP ρ ps z<;>rfl
 case nilCheck x=>cases ρ x<;>first | rfl | (rename_i a;cases a<;>rfl) | (rename_i f a b;cases f<;>rfl)
 case fieldAddr o x=>cases ρ x<;>first | rfl | (rename_i a;cases a<;>rfl)
 case field1 o x=>cases ρ x<;>first | rfl | (rename_i cs;simp only [];cases cs.toList[o]?<;>rfl)
 case fieldN o n x=>cases ρ x<;>rfl
 case idxAddrA l e x i=>split<;>first | rfl | (split<;>rfl)
 case idxAddrS e x i=>split<;>first | rfl | (split<;>rfl)
 case idxA l e d x i=>
  split
  ·split
   ·split
    ·rfl
    ·simp [Function.comp_def]
   ·rfl
  ·rfl
 case idxStr x i=>
  split
  ·split
   ·simp [Function.comp_def]
   ·rfl
  ·rfl
 case sliceS e x lo hi mx=>cases Uc e ρ (ρ x) lo hi mx<;>rfl
 case sliceA n e x lo hi mx=>
  split
  ·split
   ·split<;>rfl
   ·rfl
  ·rfl
 case sliceStr x lo hi=>
  split
  ·split<;>rfl
  ·rfl
 case lenStr x=>cases ρ x<;>rfl
 case lenSlice x=>cases ρ x<;>rfl
 case capSlice x=>
  cases ρ x<;>try rfl
  rename_i a n c
  by_cases h:c<2 ^ 62<;>simp only [h,if_true,if_false]<;>rfl
 case die=>rfl
 case minmax mx xs=>
  cases xs with
  | nil=>rfl
  | cons x r=>simp only [];cases R9 mx (ρ x) (r.map ρ)<;>rfl
 case extract i x=>cases ρ x<;>first | rfl | (rename_i vs;simp only [];cases vs.toList[i]?<;>rfl)
 case strId x=>cases ρ x<;>rfl
 case call mp f args=>split at hk<;>cases hk
theorem Nz4 {o:AOp} (hk:kind o=.p) {lim:Nat} {dest:Option Nat} {ρ:Operand->Value} {H H':NE} {v:Value} (h:NJ lim dest o ρ H=some (v,H')) :
  H'=H/\∀a,NJ lim dest o ρ a=some (v,a):=by
 rw [Ncx hk] at h
 cases hg:(NJ lim dest o ρ []).map (·.1) with
 | none=>rw [hg] at h;cases h
 | some c=>
   rw [hg] at h
   cases h
   exact ⟨rfl,fun a=>by rw [Ncx hk,hg];rfl⟩
theorem Y8 {o:AOp} (hk:kind o=.r) (hc:∀mp f args,o≠.call mp f args) {lim:Nat} {dest:Option Nat} {ρ:Operand->Value} {H H':NE} {v:Value} (h:NJ lim dest o ρ H=some (v,H')):H'=H:=by
 have fin:∀{x:Option Value},(x.map fun c=>(c,H))=some (v,H')->H'=H:=by
  intro x h
  cases x with
  | none=>cases h
  | some c=>cases h;rfl
 cases o<;>simp [kind] at hk<;>simp only [NJ] at h
 case load1=>split at h;exact fin h;cases h
 case loadN=>
  split at h
  ·simp only [Nc,Prod.mk.injEq] at h;obtain ⟨_,_,_,h⟩:=h;exact h.symm
  ·cases h
 case loadR=>
  split at h
  ·split at h
   ·simp only [Nc,Prod.mk.injEq] at h;obtain ⟨_,_,_,h⟩:=h;exact h.symm
   ·cases h
  ·cases h
 case loadO=>
  split at h
  ·split at h
   ·simp only [Nc,Prod.mk.injEq] at h;obtain ⟨_,_,_,h⟩:=h;exact h.symm
   ·cases h
  ·cases h
 case lenMap=>simp only [Nc,Prod.mk.injEq] at h;obtain ⟨_,_,_,h⟩:=h;exact h.symm
 case lookup=>
  split at h
  ·split at h
   ·split at h<;>cases h<;>rfl
   ·cases h
  ·cases h
 case rowMark=>
  split at h
  ·split at h
   ·split at h
    ·cases h;rfl
    ·cases h
   ·cases h
  ·cases h
 case b2s=>
  split at h
  ·split at h<;>cases h;rfl
  ·split at h
   ·split at h<;>cases h;rfl
   ·cases h
  ·cases h
 case call=>cases h
theorem Nz6 {o:AOp} (hk:kind o=.a) {lim d:Nat} {ρ:Operand->Value} {H H':NE} {v:Value} (h:NJ lim (some d) o ρ H=some (v,H')) :
  ∃b,H'=H.set d b/\∀c,NJ lim (some d) o ρ c=some (v,c.set d b):=by
 cases o<;>simp [kind] at hk<;>simp only [NJ,UJ] at h⊢
 case alloc=>cases h;exact ⟨_,rfl,fun _=>rfl⟩
 case box x=>
  split at h
  case isFalse=>cases h
  rename_i e
  cases h
  exact ⟨_,rfl,fun _=>by rw [Ni e]⟩
 case buildSlice=>
  split at h
  case h_2=>cases h
  cases h
  exact ⟨_,rfl,fun _=>rfl⟩
 case makeSlice=>
  split at h
  case h_2=>cases h
  split at h
  case isFalse=>cases h
  rename_i hc
  cases h
  exact ⟨_,rfl,fun _=>by rw [Ni hc]⟩
 case growNil=>
  split at h
  case h_2=>cases h
  split at h
  case isFalse=>cases h
  rename_i hc
  cases h
  exact ⟨_,rfl,fun _=>by rw [Ni hc]⟩
 case makeMap=>
  split at h
  case h_2=>cases h
  cases h
  exact ⟨_,rfl,fun _=>rfl⟩
 case call mp f args=>split at hk<;>cases hk
theorem Xp {X:NE} {i j:Nat} {b:Blk} (h:i≠j):NF (X.set j b) i=NF X i:=by
 unfold NF;rw [Na,Na,Qk (Ne.symm h)]
theorem Vh {o:AOp} (h:kind o=.s):Yk o=true:=by
 cases o<;>(try (simp [kind] at h;done))<;>(try rfl)
 simp only [kind] at h
 split at h<;>cases h
theorem Nz8 {o:AOp} (h:Yk o=true):kind o=.s/\makes o=false:=by
 cases o<;>simp [Yk] at h
 exact ⟨rfl,rfl⟩
theorem Nz3 {o:AOp} (hk:kind o=.s) {lim d:Nat} {ρ:Operand->Value} {H H':NE} {v:Value} (h:NJ lim (some d) o ρ H=some (v,H')) :
  ∃b,H'=H.set d b/\∀e,NF e d=NF H d->NJ lim (some d) o ρ e=some (v,e.set d b):=by
 have hs:=Vh hk
 cases o<;>simp [Yk] at hs
 rename_i n a x
 cases ha:ρ a with
 | pointer q=>
   cases q with
   | none=>simp [NJ,ha] at h
   | some p=>
     simp only [NJ,ha] at h⊢
     split at h
     case isFalse=>cases h
     rename_i hc
     simp only [Nc,Prod.mk.injEq] at h
     obtain ⟨K,h1,rfl,rfl⟩:=h
     unfold storeAt at h1
     rw [hc.1] at h1
     split at h1
     case h_2=>cases h1
     rename_i c f
     split at h1
     case isFalse=>cases h1
     rename_i hl
     cases h1
     refine ⟨_,rfl,fun e h2=>?_⟩
     rw [Ni hc]
     unfold storeAt
     rw [hc.1,h2,f]
     simp only
     rw [Ni hl]
     rfl
 | _=>simp [NJ,ha] at h
theorem WJ {o:AOp} {lim:Nat} {dest:Option Nat} {ρ:Operand->Value} {H:NE} {r} (h:NJ lim dest o ρ H=some r):NJ lim dest (Zy o) ρ H=some r:=by
 cases o<;>try exact h
 case loadO n x b=>
  simp only [NJ] at h
  split at h
  case h_2=>cases h
  rename_i p q c e
  split at h
  case isFalse=>cases h
  cases n with
  | none=>simp only [Zy,NJ,c];exact h
  | some k=>
    simp only [Zy,NJ,c]
    simp only [loadX,Option.map_map] at h
    exact h
 case storeO n a x b=>
  simp only [NJ] at h
  split at h
  case h_2=>cases h
  rename_i p q c e
  split at h
  case isFalse=>cases h
  rename_i hc
  simp only [Zy,NJ,c]
  rw [Ni hc.2]
  exact h
 case loadR n x=>
  cases c:ρ x with
  | pointer q=>
    cases q with
    | none=>simp [NJ,c] at h
    | some p=>
      simp only [NJ,c] at h
      split at h
      case isFalse=>cases h
      cases n with
      | none=>simp only [Zy,NJ,c];exact h
      | some k=>
        simp only [Zy,NJ,c]
        simp only [loadX,Option.map_map] at h
        exact h
  | _=>simp [NJ,c] at h
 case storeD n a x=>
  cases dest with
  | none=>simp [NJ] at h
  | some d=>
    cases c:ρ a with
    | pointer q=>
      cases q with
      | none=>simp [NJ,c] at h
      | some p=>
        simp only [NJ,c] at h
        split at h
        case isFalse=>cases h
        rename_i hc
        simp only [Zy,NJ,c]
        rw [Ni hc.2]
        exact h
    | _=>simp [NJ,c] at h
 case append0=>
  simp only [NJ] at h
  split at h
  ·rename_i hs;simp only [Zy,NJ,hs];exact h
  ·cases h
 case appendL=>
  simp only [NJ] at h
  split at h
  ·rename_i hs;simp only [Zy,NJ,hs];exact h
  ·rename_i hs
   split at h
   ·simp only [Zy,NJ,hs];exact h
   ·cases h
  ·cases h
theorem Ncy {o:AOp} (h:isL o=true):kind o=.w/\makes o=true/\isL (Zy o)=false/\kind (Zy o)=.w/\makes (Zy o)=true:=by
 cases o<;>simp [isL] at h
 simp [Zy,kind,makes,isL]
theorem Nug {o:AOp} (hL:isL o=true) {lim d:Nat} {ρ:Operand->Value} {H H':NE} {v:Value} (h:NJ lim (some d) o ρ H=some (v,H')) (j:Nat) (c:j≠d):H'[j]? = H[j]?\/H'[j]? = some .dead:=by
 cases o<;>simp [isL] at hL
 have set:∀{H:NE} {i:Nat} {b:Blk},j≠i->(H.set i b)[j]? = H[j]?:=fun {H i b} h=>by rw [N3,Nh (Ne.symm h)]
 have dead:∀{H:NE} {i:Nat},(H.set i .dead)[j]? = H[j]?\/(H.set i .dead)[j]? = some .dead:=fun {H i}=>by
  by_cases e:i=j
  ·subst e
   rw [N3,Ni rfl]
   by_cases hi:i<H.length
   ·rw [Ni hi];exact .inr rfl
   ·rw [Nh hi,Nw (by omega)];exact .inl rfl
  ·exact .inl (set (Ne.symm e))
 simp only [NJ] at h
 split at h
 ·unfold OT at h
  split at h
  case h_2=>cases h
  rename_i e1 e2 e3
  cases e1
  split at h
  ·cases h
  split at h
  ·cases h;exact .inl rfl
  simp only at h
  split at h
  ·cases h;exact .inl (set c)
  ·cases h
 ·split at h
  case isFalse=>cases h
  rename_i hc
  unfold OT at h
  split at h
  case h_2=>cases h
  rename_i e1 e2 e3
  cases e1
  split at h
  ·cases h
  split at h
  ·cases h;exact .inl rfl
  repeat' (split at h)
  all_goals first
   | (cases h;done)
   | contradiction
   | (cases h;exact .inl rfl)
   | (cases h;exact .inl (set c))
   | (cases h;rename_i a;simp only [place,Prod.mk.injEq] at a;obtain ⟨_,rfl⟩:=a;rw [set c];exact dead)
   | (cases h;rename_i a;simp only [place,Prod.mk.injEq] at a;obtain ⟨_,rfl⟩:=a;exact .inl (set c))
   | (exfalso;omega)
 ·cases h
theorem Nz5 {o:AOp} (hk:kind o=.n) {lim d:Nat} {ρ:Operand->Value} {H H':NE} {v:Value} (h:NJ lim (some d) o ρ H=some (v,H')):H'=H\/∃b,H'=H.set d b:=by
 cases o<;>simp [kind] at hk<;>simp only [NJ] at h
 case append0=>
  split at h
  case h_2=>cases h
  unfold OT at h
  split at h
  case h_2=>cases h
  rename_i e1 e2 e3
  cases e1
  split at h
  ·cases h
  split at h
  ·cases h;exact .inl rfl
  split at h
  ·split at h
   ·simp only [UJ] at h;cases h;exact .inr ⟨_,rfl⟩
   ·cases h
  ·split at h
   ·cases h
   split at h
   ·rename_i q;exact absurd q (by unfold loose;omega)
   ·split at h
    ·split at h
     ·omega
     ·simp only [UJ] at h;cases h;exact .inr ⟨_,rfl⟩
    ·cases h
 case call mp f args=>split at hk<;>cases hk
theorem Nvu {o:AOp} {lim:Nat} {dest:Option Nat} {ρ ρ':Operand->Value} {H:NE} (h:∀x∈o.operands,ρ x=ρ' x):NJ lim dest o ρ H=NJ lim dest o ρ' H:=by
 have k:∀(ps:List (Nat×Nat×Operand)) (c:List Value),(∀x∈ps.map (·.2.2),ρ x=ρ' x)->RP ρ ps c=RP ρ' ps c:=by
  intro ps
  induction ps with
  | nil=>intro c _;rfl
  | cons p ps ih=>
    intro c hp
    obtain ⟨o,s,x⟩:=p
    simp only [RP,hp x (by simp)]
    split
    ·exact ih _ fun y d=>hp y (by simp at d⊢;exact .inr d)
    ·rfl
 have j:∀(len cap:Nat) (lo hi mx:Option Operand),(∀x∈lo.toList++hi.toList++mx.toList,ρ x=ρ' x)->bounds ρ len cap lo hi mx=bounds ρ' len cap lo hi mx:=by
  intro len cap lo hi mx g
  cases lo<;>cases hi<;>cases mx<;>simp at g<;>unfold bounds<;>(try simp only [g])
 cases o<;>simp only [AOp.operands] at h<;>simp only [NJ]
 case build z ps=>rw [k ps z h]
 case buildSlice n z ps=>rw [k ps z h]
 case sliceS e x lo hi mx=>
  have i:=h x (by simp)
  have g:=fun len cap=>j len cap lo hi mx fun y d=>h y (Nk _ d)
  simp only [i,Uc,g]
 case sliceA n e x lo hi mx=>
  have i:=h x (by simp)
  have g:=fun len cap=>j len cap lo hi mx fun y d=>h y (Nk _ d)
  simp only [i,g]
 case sliceStr x lo hi=>
  have i:=h x (by simp)
  have g:=fun len cap=>j len cap lo hi none fun y d=>h y (Nk _ (by simpa using d))
  simp only [i,g]
 case minmax mx xs=>
  cases xs with
  | nil=>rfl
  | cons x r=>simp only [h x (by simp),Pc fun y d=>h y (Nk _ d)]
 case makeMap hint=>
  cases hint with
  | none=>rfl
  | some x=>simp only [h x (by simp)]
 case makeFunc f a b=>
  rw [Pc fun y d=>h y (by simp [d]),Pc (l:=b) fun y d=>h y (by simp [d])]
 all_goals (first | rfl | (simp only [Np,O8,or_false,forall_eq_or_imp,forall_eq] at h;simp only [h]))
structure CallOk0 (C:TP):Prop where
 pure:∀lim g as H v H',C true lim g as H=some (v,H')->H'=H
 len:∀mp lim g as H v H',C mp lim g as H=some (v,H')->lim<=H.length->H.length<=H'.length
 keep:∀mp lim g as H v H',C mp lim g as H=some (v,H')->lim<=H.length->∀j,j<lim->H'[j]? = H[j]?
theorem Un {lim:Nat} {H H':NE} {a:Addr} {vs:List Value} (h:storeAt lim H a vs=some H'):H'.length=H.length:=by
 unfold storeAt at h
 split at h
 ·split at h
  ·cases h;simp
  ·cases h
 ·cases h
theorem Nb0 {o:AOp} (hL:isL o=false) (hk:kind o=.w) {lim d:Nat} {ρ:Operand->Value} {H H':NE} {v:Value} (h:NJ lim (some d) o ρ H=some (v,H')):H'.length=H.length:=by
 cases o<;>simp [kind] at hk<;>simp only [NJ] at h
 case store=>
  split at h
  ·split at h
   ·simp only [Nc,Prod.mk.injEq] at h;obtain ⟨_,h1,_,rfl⟩:=h;exact Un h1
   ·cases h
  ·cases h
 case storeO=>
  split at h
  ·split at h
   ·simp only [Nc,Prod.mk.injEq] at h;obtain ⟨_,h1,_,rfl⟩:=h;exact Un h1
   ·cases h
  ·cases h
 case append=>
  unfold OT at h
  split at h
  case h_2=>cases h
  split at h
  ·cases h
  split at h
  ·cases h;rfl
  split at h
  ·split at h
   ·simp only [UJ] at h;cases h;simp
   ·cases h
  ·split at h
   ·cases h
   split at h
   ·split at h
    ·split at h
     ·simp only [UJ] at h;cases h;simp
     ·cases h
    ·cases h
   ·split at h
    ·split at h
     ·split at h
      ·rename_i h1;cases h;exact Un h1
      ·cases h
     ·simp only [UJ] at h;cases h;simp
    ·cases h
 case copy=>
  split at h
  ·split at h
   ·split at h
    ·split at h
     ·cases h;rfl
     ·simp only [Nc,Prod.mk.injEq] at h;obtain ⟨_,h1,_,rfl⟩:=h;exact Un h1
    ·split at h
     ·cases h;rfl
     ·cases h
   ·cases h
  ·cases h
 case mapUpdate=>
  split at h
  ·split at h
   ·split at h
    ·split at h<;>cases h<;>simp
    ·cases h
   ·cases h
  ·cases h
 case clear=>
  split at h
  ·split at h
   ·cases h;rfl
   ·simp only [Nc,Prod.mk.injEq] at h;obtain ⟨_,h1,_,rfl⟩:=h;exact Un h1
  ·cases h
 case delete=>cases h
 case call=>split at hk<;>cases hk
 case appendL=>simp [isL] at hL
theorem XJ {o:AOp} (hk:kind o=.w) {lim d:Nat} {ρ:Operand->Value} {H H':NE} {v:Value} (h:NJ lim (some d) o ρ H=some (v,H')):H'.length=H.length:=by
 cases hL:isL o with
 | false=>exact Nb0 hL hk h
 | true=>obtain ⟨_,_,h1,h2,_⟩:=Ncy hL;exact Nb0 h1 h2 (WJ h)
structure Planned (x:AIns):Prop where
 bare:kind x.op=.p\/kind x.op=.a\/kind x.op=.s->x.mask=[]
 dest:makes x.op=true->∃r,x.dest=some r
 home:Yk x.op=true->∃r,x.dest=some r
theorem Zh {o:AOp} (h:kind o=.a):makes o=true:=by cases o<;>simp_all [makes,kind]
theorem Y7 {o:AOp} (hk:kind o=.w) (hm:makes o=false) {lim:Nat} {dest:Option Nat} {ρ:Operand->Value} {H H':NE} {v:Value} (h:NJ lim dest o ρ H=some (v,H')):H'.length=H.length:=by
 have key:NJ lim dest o ρ H=NJ lim (some 0) o ρ H:=by
  cases o<;>simp [kind] at hk<;>simp [makes] at hm<;>rfl
 rw [key] at h
 exact XJ hk h
section
variable {C:TP} {N lim base:Nat}
def PM (C:TP) (lim base:Nat) (i:AIns) (ρ:Operand->Value) (H:NE):Option (Value×NE):=
 match Ry C lim (i.dest.map (base+·)) i.op ρ (OD base i.mask H) with
 | some (v,H')=>some (v,NY base i.mask H H')
 | none=>none
theorem Sq {i:AIns} {fr:Nat->Value} {H:NE}:SF C N lim (some base) i fr H =
  match RG N fr i.guard with
  | none=>none
  | some false=>some (undef,H)
  | some true=>PM C lim base i (ev fr) H:=rfl
theorem OQ {o:AOp} (h:∀mp f args,o≠.call mp f args) (dest:Option Nat) (ρ:Operand->Value) (H:NE):Ry C lim dest o ρ H=NJ lim dest o ρ H:=by
 cases o<;>first | rfl | (exact absurd rfl (h _ _ _))
theorem Nuc {o:AOp} (h:∃mp f args,o=.call mp f args):kind o=.r\/kind o=.c:=by
 obtain ⟨mp,f,args,rfl⟩:=h
 cases mp<;>simp [kind,CM.isPure]
theorem Y3 {o:AOp} (h:kind o=.p\/kind o=.a\/kind o=.w):∀mp f args,o≠.call mp f args:=fun mp f args e=>by
 rcases Nuc ⟨mp,f,args,e⟩ with h' | h'<;>rw [h'] at h<;>simp at h
theorem N1m {i:AIns} (hp:Planned i) (hk:kind i.op=.p) (ρ:Operand->Value) (H:NE):PM C lim base i ρ H=((NJ lim (i.dest.map (base+·)) i.op ρ []).map (·.1)).map (·,H):=by
 unfold PM
 rw [hp.bare (.inl hk),OQ (Y3 (.inl hk))]
 simp only [OD,NY,List.foldl_nil]
 rw [Ncx hk]
 cases (Option.map (fun x=>x.1) (NJ lim (Option.map (fun x=>base+x) i.dest) i.op ρ []))<;>rfl
theorem XW (b:CallOk0 C) {i:AIns} (hk:kind i.op=.r) {ρ:Operand->Value} {H H':NE} {v:Value} (h:PM C lim base i ρ H=some (v,H')):H'=H:=by
 unfold PM at h
 split at h
 case h_2=>cases h
 rename_i c H1 h1
 cases h
 have:H1=OD base i.mask H:=by
  by_cases hc:∃mp f args,i.op=.call mp f args
  ·obtain ⟨mp,f,args,hc⟩:=hc
   rw [hc] at h1 hk
   have a:mp=.pure:=by cases mp<;>simp [kind,CM.isPure] at hk⊢
   subst a
   simp only [Ry] at h1
   split at h1
   ·exact b.pure _ _ _ _ _ _ (SG h1).1
   ·cases h1
  ·rw [OQ (fun mp f args e=>hc ⟨mp,f,args,e⟩)] at h1
   exact Y8 hk (fun mp f args e=>hc ⟨mp,f,args,e⟩) h1
 rw [this,SN]
theorem Nfd {i:AIns} (hp:Planned i) (hk:kind i.op=.a) {r:Nat} (hr:i.dest=some r) {ρ:Operand->Value} {H H':NE} {v:Value} (h:PM C lim base i ρ H=some (v,H')) :
  ∃b,H'=H.set (base+r) b/\∀c,PM C lim base i ρ c=some (v,c.set (base+r) b):=by
 unfold PM at h⊢
 rw [hp.bare (.inr (.inl hk)),OQ (Y3 (.inr (.inl hk))),hr] at h
 simp only [OD,NY,List.foldl_nil,Nv] at h
 split at h
 case h_2=>cases h
 rename_i d H1 h1
 cases h
 obtain ⟨b,e1,e2⟩:=Nz6 hk h1
 refine ⟨b,e1,fun c=>?_⟩
 rw [hp.bare (.inr (.inl hk)),OQ (Y3 (.inr (.inl hk))),hr]
 simp only [OD,NY,List.foldl_nil,Nv,e2]
theorem Nqe {i:AIns} (hp:Planned i) (hk:kind i.op=.s) {r:Nat} (hr:i.dest=some r) {ρ:Operand->Value} {H H':NE} {v:Value} (h:PM C lim base i ρ H=some (v,H')) :
  ∃b,H'=H.set (base+r) b/\∀a,NF a (base+r)=NF H (base+r)->PM C lim base i ρ a=some (v,a.set (base+r) b):=by
 have c:∀mp f args,i.op≠.call mp f args:=fun mp f args e=>by have:=Vh hk;rw [e] at this;simp [Yk] at this
 unfold PM at h⊢
 rw [hp.bare (.inr (.inr hk)),OQ c,hr] at h
 simp only [OD,NY,List.foldl_nil,Nv] at h
 split at h
 case h_2=>cases h
 rename_i d H1 h1
 cases h
 obtain ⟨b,e1,e2⟩:=Nz3 hk h1
 refine ⟨b,e1,fun a h2=>?_⟩
 rw [hp.bare (.inr (.inr hk)),OQ c,hr]
 simp only [OD,NY,List.foldl_nil,Nv,e2 a h2]
theorem Npf {o:AOp} (hk:kind o=.n) {lim d:Nat} {ρ:Operand->Value} {H H':NE} {v:Value} (h:NJ lim (some d) o ρ H=some (v,H')):H'.length=H.length:=by
 rcases Nz5 hk h with rfl | ⟨b,rfl⟩
 ·rfl
 ·simp
theorem Nrg {o:AOp} (h:kind o=.n):makes o=true:=by
 cases o<;>(try (simp_all [makes,kind];done))
 rename_i mp f args
 cases mp<;>simp [kind,CM.isPure] at h
theorem Ncg (base:Nat) (l:List Nat) (H:NE) (d:Nat) (b:Blk):NY base l H ((OD base l H).set d b)=H\/NY base l H ((OD base l H).set d b)=H.set d b:=by
 by_cases hd:∃i∈l,base+i=d
 ·left
  apply List.ext_getElem?
  intro j
  by_cases c:j<H.length
  ·by_cases hl:∃i∈l,base+i=j
   ·rw [RV base H l _ hl (by simp [OX];exact c),MJ c]
   ·have a:∀i∈l,base+i≠j:=fun i hi e=>hl ⟨i,hi,e⟩
    rw [Rx base H l _ a,N3,Nh (fun e=>hl (by rw [<-e];exact hd)),QP base l _ a]
  ·rw [Nw (by rw [PH];simp [OX];omega),Nw (by omega)]
 ·right
  apply List.ext_getElem?
  intro j
  by_cases c:j<H.length
  ·by_cases hl:∃i∈l,base+i=j
   ·rw [RV base H l _ hl (by simp [OX];exact c),N3,Nh (fun e=>hd (by rw [e];exact hl)),MJ c]
   ·have a:∀i∈l,base+i≠j:=fun i hi e=>hl ⟨i,hi,e⟩
    rw [Rx base H l _ a,N3,N3,OX,QP base l _ a]
  ·rw [Nw (by rw [PH];simp [OX];omega),Nw (by simp;omega)]
theorem N1n {i:AIns} (hp:Planned i) (hk:kind i.op=.n) {ρ:Operand->Value} {H H':NE} {v:Value} (h:PM C lim base i ρ H=some (v,H')) :
  ∃r,i.dest=some r/\(H'=H\/∃b,H'=H.set (base+r) b):=by
 obtain ⟨r,hr⟩:=hp.dest (Nrg hk)
 refine ⟨r,hr, ?_⟩
 unfold PM at h
 have a:∀mp f args,i.op≠.call mp f args:=fun mp f args e=>by rw [e] at hk;cases mp<;>simp [kind,CM.isPure] at hk
 rw [OQ a,hr] at h
 simp only [Nv] at h
 split at h
 case h_2=>cases h
 rename_i c H1 h1
 cases h
 rcases Nz5 hk h1 with rfl | ⟨b,rfl⟩
 ·rw [SN];exact .inl rfl
 ·rcases Ncg base i.mask H (base+r) b with e | e
  ·exact .inl e
  ·exact .inr ⟨b,e⟩
theorem N68 {o:AOp} (h:kind o=.c):∃mp f args,o=.call mp f args:=by
 cases o<;>simp [kind] at h
 exact ⟨_,_,_,rfl⟩
theorem Nj5 (o:CallOk0 C) {i:AIns} (hp:Planned i) {ρ:Operand->Value} {A X:NE} {v:Value} (hl:lim<=A.length) (hs:Ry C lim (i.dest.map (base+·)) i.op ρ A=some (v,X)):A.length<=X.length/\(kind i.op≠.c->X.length=A.length):=by
 by_cases hc:∃mp f args,i.op=.call mp f args
 ·obtain ⟨mp,f,args,hc⟩:=hc
  rw [hc] at hs
  simp only [Ry] at hs
  split at hs
  case h_2=>cases hs
  have j:=(SG hs).1
  have k:mp.lim lim A<=A.length:=by cases mp<;>simp [CM.lim,hl]
  refine ⟨o.len _ _ _ _ _ _ _ j k,fun hk=>?_⟩
  rw [hc] at hk
  have l:mp=.pure:=by cases mp<;>simp [kind,CM.isPure] at hk⊢
  subst l
  rw [o.pure _ _ _ _ _ _ j]
 ·have g:∀mp f args,i.op≠.call mp f args:=fun mp f args e=>hc ⟨mp,f,args,e⟩
  rw [OQ g] at hs
  have:X.length=A.length:=by
   cases hk:kind i.op with
   | p=>rw [Ncx hk] at hs;simp only [Nc,Prod.mk.injEq] at hs;obtain ⟨_,_,_,h⟩:=hs;rw [h]
   | r=>rw [Y8 hk g hs]
   | a=>
     obtain ⟨m,d⟩:=hp.dest (Zh hk)
     rw [d] at hs
     obtain ⟨b,e1,_⟩:=Nz6 hk hs
     rw [e1];simp
   | w=>
     cases hm:makes i.op with
     | true=>
       obtain ⟨m,d⟩:=hp.dest hm
       rw [d] at hs
       exact XJ hk hs
     | false=>exact Y7 hk hm hs
   | n=>
     obtain ⟨m,d⟩:=hp.dest (Nrg hk)
     rw [d] at hs
     exact Npf hk hs
   | c=>exact absurd (N68 hk) (fun ⟨_,_,_,e⟩=>g _ _ _ e)
   | s=>
     obtain ⟨m,d⟩:=hp.home (Vh hk)
     rw [d] at hs
     obtain ⟨b,e1,_⟩:=Nz3 hk hs
     rw [e1];simp
  exact ⟨by omega,fun _=>this⟩
theorem Xw (a:CallOk0 C) {i:AIns} (hp:Planned i) {ρ:Operand->Value} {H H':NE} {v:Value} (hl:lim<=H.length) (h:PM C lim base i ρ H=some (v,H')):H.length<=H'.length:=by
 unfold PM at h
 split at h
 case h_2=>cases h
 rename_i b X h1
 cases h
 have:=(Nj5 a hp (by rw [OX];exact hl) h1).1
 rw [OX] at this
 rw [PH];exact this
theorem Uw (d:CallOk0 C) {i:AIns} (hp:Planned i) {r:Nat} (hr:r∈i.mask) (ρ:Operand->Value) (H:NE) (b:Blk) (hl:lim<=H.length) (a:base+r<H.length) :
  PM C lim base i ρ (H.set (base+r) b)=(PM C lim base i ρ H).map fun p=>(p.1,p.2.set (base+r) b):=by
 unfold PM
 rw [Ny2 base i.mask H hr b]
 cases hs:Ry C lim (i.dest.map (base+·)) i.op ρ (OD base i.mask H) with
 | none=>rfl
 | some p=>
   obtain ⟨v,X⟩:=p
   simp only [Nv]
   have c:=(Nj5 d hp (by rw [OX];exact hl) hs).1
   rw [OX] at c
   rw [Nju base i.mask H X hr b a c]
theorem Nfc (b:CallOk0 C) {i:AIns} (hp:Planned i) {r:Nat} (hr:r∈i.mask) {ρ:Operand->Value} {H H':NE} {v:Value} (hl:lim<=H.length) (c:base+r<H.length) (h:PM C lim base i ρ H=some (v,H')):NF H' (base+r)=NF H (base+r):=by
 have a:=Xw b hp hl h
 unfold PM at h
 split at h
 case h_2=>cases h
 rename_i d X h1
 cases h
 rw [PH] at a
 have:=RV base H i.mask X ⟨r,hr,rfl⟩ (by omega)
 unfold NF
 rw [Na,this]
 rfl
structure Sep (x y:AIns):Prop where
 apart:Nbh x y=true
 calm:AM.calm x.op y.op=true
 maskY:(kind y.op=.r\/kind y.op=.w\/kind y.op=.n\/kind y.op=.c)->∀r,x.dest=some r->r∈y.mask
 maskX:(kind x.op=.r\/kind x.op=.w\/kind x.op=.n\/kind x.op=.c)->∀r,y.dest=some r->r∈x.mask
 dests:∀r,x.dest=some r->y.dest≠some r
theorem Ny7 {i:AIns} {t:Nat} (h:Operand.tmp t∈i.op.operands):t∈i.looks:=by
 unfold AIns.looks
 exact Oq _ (List.mem_filterMap.2 ⟨.tmp t,h,rfl⟩)
theorem Nlo {i:AIns} {t:Nat} {b:Bool} (h:i.guard=some (t,b)):t∈i.looks:=by
 unfold AIns.looks
 rw [h]
 exact P0 _ (by simp)
theorem Mv {o:AOp} {dest:Option Nat} {ρ ρ':Operand->Value} {H:NE} (h:∀x∈o.operands,ρ x=ρ' x):Ry C lim dest o ρ H=Ry C lim dest o ρ' H:=by
 by_cases hc:∃mp f args,o=.call mp f args
 ·obtain ⟨mp,f,args,rfl⟩:=hc
  simp only [AOp.operands] at h
  simp only [Ry,h f (by simp),Pc fun y b=>h y (Nk _ b)]
 ·have a:∀mp f args,o≠.call mp f args:=fun mp f args e=>hc ⟨mp,f,args,e⟩
  rw [OQ a,OQ a]
  exact Nvu h
theorem Npl {b:Option Nat} {i:AIns} {fr:Nat->Value} {H:NE} {d:Nat} {v:Value} (h:d∉i.looks):SF C N lim b i (upd fr d v) H=SF C N lim b i fr H:=by
 have a:RG N (upd fr d v) i.guard=RG N fr i.guard:=by
  cases hg:i.guard with
  | none=>rfl
  | some g=>
    obtain ⟨t,b⟩:=g
    have:t≠d:=fun e=>h (e▸Nlo hg)
    simp [RG,upd,this]
 have he:∀x∈i.op.operands,ev (upd fr d v) x=ev fr x:=fun x c=>by
  cases x with
  | tmp t=>
    have:t≠d:=fun e=>h (e▸Ny7 c)
    simp [ev,upd,this]
  | _=>rfl
 unfold SF
 rw [a]
 cases b with
 | none=>simp only [Mv (C:=C) (lim:=lim) he]
 | some b=>simp only [Mv (C:=C) (lim:=lim) he]
theorem Nej {b:Option Nat} {i:AIns} {fr fr':Nat->Value} {H:NE} {dst:Option Nat} {v:Value} (hp:Yz N fr dst v=some fr') (h:∀d,dst=some d->d∉i.looks):SF C N lim b i fr' H=SF C N lim b i fr H:=by
 cases dst with
 | none=>cases hp;rfl
 | some d=>
   simp only [Yz] at hp
   split at hp
   ·cases hp;exact Npl (h d rfl)
   ·cases hp
theorem put_comm {fr fr1 fr2:Nat->Value} {x y:Option Nat} {v u:Value} (h1:Yz N fr x v=some fr1) (h2:Yz N fr1 y u=some fr2) (c:∀d,x=some d->y≠some d) :
  ∃a,Yz N fr y u=some a/\Yz N a x v=some fr2:=by
 cases x with
 | none=>cases h1;exact ⟨fr2,h2,rfl⟩
 | some d=>
   cases y with
   | none=>cases h2;exact ⟨fr,rfl,h1⟩
   | some e=>
     simp only [Yz] at h1 h2
     split at h1
     case isFalse=>cases h1
     rename_i hd
     split at h2
     case isFalse=>cases h2
     rename_i he
     cases h1;cases h2
     refine ⟨upd fr e u,by simp [Yz,he], ?_⟩
     have b:d≠e:=fun h=>c d rfl (by rw [h])
     simp only [Yz,hd,if_true,Option.some.injEq]
     funext t
     simp only [upd]
     by_cases h1:t=d
     ·subst h1;simp [b]
     ·simp [h1]
theorem WE {H:NE} {i:Nat} {b:Blk} (h:NF H i=b) (a:b≠.dead):H[i]? = some b:=by
 unfold NF at h
 rw [Na] at h
 cases hi:H[i]? with
 | none=>rw [hi] at h;simp at h;exact absurd h.symm a
 | some x=>rw [hi] at h;simp at h;rw [h]
theorem Nsw {o:AOp} (hr:isRead o=true) {lim:Nat} {dest:Option Nat} {ρ:Operand->Value} {H c:NE} {v:Value} (hk:∀(j:Nat) b,H[j]? = some b->c[j]? = some b) (h:NJ lim dest o ρ H=some (v,H)):NJ lim dest o ρ c=some (v,c):=by
 have f:∀{j:Nat} {b:Blk},b≠.dead->NF H j=b->NF c j=b:=fun {j b} d h=>by
  have:=hk j _ (WE h d)
  unfold NF;rw [Na,this];rfl
 have h1:∀{p:Addr} {z:Value},AM.loadCell H p=some z->AM.loadCell c p=some z:=fun {p z} a=>by
  unfold AM.loadCell at a⊢
  split at a
  ·rename_i d;rw [f (by intro e;cases e) d];exact a
  ·cases a
 have g:∀{p:Addr} {n:Nat} {z:List Value},AM.loadCells H p n=some z->AM.loadCells c p n=some z:=fun {p n z} a=>by
  unfold AM.loadCells at a⊢
  split at a
  ·rename_i d;rw [f (by intro e;cases e) d];exact a
  ·cases a
 have hM:∀{m:Value} {es:List (Value×Value)},mapEntries H m=some es->mapEntries c m=some es:=fun {m es} a=>by
  unfold mapEntries at a⊢
  split at a
  ·exact a
  ·split at a
   ·rename_i d;rw [f (by intro e;cases e) d];exact a
   ·cases a
  ·cases a
 cases o<;>simp [isRead] at hr<;>simp only [NJ] at h⊢
 case load1=>
  split at h
  ·simp only [Nc,Prod.mk.injEq] at h
   obtain ⟨z,a,rfl,_⟩:=h
   rw [h1 a];rfl
  ·cases h
 case loadN=>
  split at h
  ·simp only [Nc,Prod.mk.injEq] at h
   obtain ⟨z,a,rfl,_⟩:=h
   rw [g a];rfl
  ·cases h
 case lenMap=>
  simp only [Nc,Prod.mk.injEq] at h
  obtain ⟨z,a,rfl,_⟩:=h
  rw [hM a];rfl
 case lookup=>
  split at h
  ·rename_i a
   rw [hM a]
   simp only
   split at h
   ·rename_i hc
    rw [Ni hc]
    split at h<;>cases h<;>rfl
   ·cases h
  ·cases h
 case b2s=>
  split at h
  ·split at h
   ·rename_i hc;cases h;rw [Ni hc]
   ·cases h
  ·split at h
   ·rename_i a
    rw [g a]
    simp only
    split at h
    ·cases h;rfl
    ·cases h
   ·cases h
  ·cases h
theorem No7 {o:AOp} (hr:isLoad o=true) {lim:Nat} {dest:Option Nat} {ρ:Operand->Value} {A B:NE} {v:Value} (d:∀{j:Nat} {ro:Bool} {c:List Value},NF A j=.cells ro c->NF B j=.cells ro c) (h:NJ lim dest o ρ A=some (v,A)):NJ lim dest o ρ B=some (v,B):=by
 cases o<;>simp [isLoad] at hr<;>simp only [NJ] at h⊢
 case load1=>
  split at h
  ·rename_i p hp
   simp only [Nc,Prod.mk.injEq] at h
   obtain ⟨z,a,rfl,_⟩:=h
   have:AM.loadCell B p=some z:=by
    unfold AM.loadCell at a⊢
    split at a
    ·rename_i b;rw [d b];exact a
    ·cases a
   rw [this];rfl
  ·cases h
 case loadN e f=>
  split at h
  ·rename_i p hp
   simp only [Nc,Prod.mk.injEq] at h
   obtain ⟨z,a,rfl,_⟩:=h
   have:AM.loadCells B p e=some z:=by
    unfold AM.loadCells at a⊢
    split at a
    ·rename_i b;rw [d b];exact a
    ·cases a
   rw [this];rfl
  ·cases h
theorem Npa {o:AOp} (hr:Zl o=true) {lim:Nat} {dest:Option Nat} {ρ:Operand->Value} {A B:NE} {v:Value} (c:∀{j:Nat},Tz (NF A j)=true->NF B j=NF A j) (h:NJ lim dest o ρ A=some (v,A)):NJ lim dest o ρ B=some (v,B):=by
 cases o<;>simp [Zl] at hr
 rename_i n d
 simp only [NJ] at h⊢
 split at h
 ·rename_i p hp
  split at h
  case isFalse=>cases h
  rename_i a
  have e:=c a
  simp only [Nc,Prod.mk.injEq] at h
  obtain ⟨z,b,rfl,_⟩:=h
  have:AM.loadX n B p=some z:=by
   unfold AM.loadX AM.loadCell AM.loadCells at b⊢
   rw [e];exact b
  rw [e,Ni a,this];rfl
 ·cases h
theorem Nz9 {a b:AOp} (h:isO a b=true):∃n x t m p y,a=.loadO n x (.tmp t)/\b=.storeO m p y (.tmp t):=by
 unfold isO at h
 split at h
 ·rename_i n x s m p y t
  rw [beq_iff_eq] at h
  subst h
  exact ⟨_,_,_,_,_,_,rfl,rfl⟩
 ·cases h
theorem Npb {n:Option Nat} {x b:Operand} {lim:Nat} {dest:Option Nat} {ρ:Operand->Value} {A B:NE} {v:Value} (f:∀q,ρ b=.pointer (some q)->∀{j:Nat} {ro:Bool} {c:List Value},j≠q.block->NF A j=.cells ro c->NF B j=.cells ro c) (h:NJ lim dest (.loadO n x b) ρ A=some (v,A)):NJ lim dest (.loadO n x b) ρ B=some (v,B):=by
 simp only [NJ] at h⊢
 split at h
 case h_2=>cases h
 rename_i p q hp g
 split at h
 case isFalse=>cases h
 rename_i a
 simp only [Nc,Prod.mk.injEq] at h
 obtain ⟨z,d,rfl,_⟩:=h
 have:AM.loadX n B p=some z:=by
  unfold AM.loadX AM.loadCell AM.loadCells at d⊢
  cases hc:NF A p.block with
  | cells ro c=>
    have e:=f q g a hc
    rw [hc] at d
    rw [e];exact d
  | _=>rw [hc] at d;cases n<;>simp at d
 rw [Ni a,this];rfl
theorem Nj1 {m:Nat} {p y b:Operand} {lim:Nat} {dest:Option Nat} {ρ:Operand->Value} {A B:NE} {v:Value} (h:NJ lim dest (.storeO m p y b) ρ A=some (v,B)):∀q,ρ b=.pointer (some q)->∀{j:Nat},j≠q.block->NF B j=NF A j:=by
 intro q e j d
 simp only [NJ] at h
 split at h
 case h_2=>cases h
 rename_i a i g c
 rw [e] at c
 cases c
 split at h
 case isFalse=>cases h
 rename_i hc
 simp only [Nc,Prod.mk.injEq] at h
 obtain ⟨f,hs,_,rfl⟩:=h
 unfold storeAt at hs
 split at hs
 ·split at hs
  ·cases hs
   exact Xp (by rw [hc.1];exact d)
  ·cases hs
 ·cases hs
theorem Nsc (W:CallOk0 C) {x y:AIns} (hx:Planned x) (X:Planned y) (hs:Sep x y) {fr:Nat->Value} {H H1 I:NE} {v u:Value} (hl:lim<=H.length) (aa:∀r,x.dest=some r\/y.dest=some r->base+r<H.length) (h1:SF C N lim (some base) x fr H=some (v,H1)) (h2:SF C N lim (some base) y fr H1=some (u,I)) :
  ∃R,SF C N lim (some base) y fr H=some (u,R)/\SF C N lim (some base) x fr R=some (v,I):=by
 rw [Sq] at h1 h2
 cases gx:RG N fr x.guard with
 | none=>rw [gx] at h1;cases h1
 | some wx=>
 cases gy:RG N fr y.guard with
 | none=>rw [gy] at h2;cases h2
 | some wy=>
 rw [gx] at h1
 rw [gy] at h2
 cases wx with
 | false=>cases h1;exact ⟨I,by rw [Sq,gy];exact h2,by rw [Sq,gx]⟩
 | true=>
 cases wy with
 | false=>cases h2;exact ⟨H,by rw [Sq,gy],by rw [Sq,gx];exact h1⟩
 | true=>
 simp only at h1 h2
 suffices hh:∃R,PM C lim base y (ev fr) H=some (u,R)/\PM C lim base x (ev fr) R=some (v,I) by
  obtain ⟨R,e1,e2⟩:=hh
  exact ⟨R,by rw [Sq,gy];exact e1,by rw [Sq,gx];exact e2⟩
 have aj:∀{i:AIns} (hp:Planned i) (hk:kind i.op=.p) {A B:NE} {z:Value},PM C lim base i (ev fr) A=some (z,B)->B=A/\∀D,PM C lim base i (ev fr) D=some (z,D):=by
  intro i hp hk A B z h
  rw [N1m hp hk] at h
  cases hg:(NJ lim (i.dest.map (base+·)) i.op (ev fr) []).map (·.1) with
  | none=>rw [hg] at h;cases h
  | some c=>rw [hg] at h;cases h;exact ⟨rfl,fun D=>by rw [N1m hp hk,hg];rfl⟩
 by_cases az:kind x.op=.p
 ·obtain ⟨rfl,o⟩:=aj hx az h1
  exact ⟨I,h2,o I⟩
 by_cases a1:kind y.op=.p
 ·obtain ⟨rfl,o⟩:=aj X a1 h2
  exact ⟨H,o H,h1⟩
 have E:((((conflict (kind x.op) (kind y.op)=false\/(isL x.op=true/\isLoad y.op=true))\/(isRead x.op=true/\N3p y.op=true))\/(isLoad x.op=true/\isMaps y.op=true))\/(Zl x.op=true/\isRecs y.op=true))\/isO x.op y.op=true:=by
  have:=hs.calm
  simpa [AM.calm] using this
 rcases E with E | hO
 case inr=>
  obtain ⟨n,ox,t,m,op,oy,ex,ey⟩:=Nz9 hO
  have Z:kind x.op=.r:=by rw [ex];rfl
  have ky:kind y.op=.w:=by rw [ey];rfl
  have V:∀mp f args,x.op≠.call mp f args:=fun mp f args e=>by rw [ex] at e;cases e
  have ax:∀mp f args,y.op≠.call mp f args:=fun mp f args e=>by rw [ey] at e;cases e
  have e1:=XW W Z h1
  subst e1
  refine ⟨I,h2, ?_⟩
  have O:∀q,ev fr (.tmp t)=.pointer (some q)->∀{j:Nat} {ro:Bool} {c:List Value},j≠q.block->NF H1 j=.cells ro c->NF I j=.cells ro c:=fun q hq {j ro c} ao l=>by
   have P:j<H1.length:=(List.getElem?_eq_some_iff.1 (WE l (by intro e;cases e))).1
   have S:H1.length<=I.length:=Xw W X hl h2
   unfold PM at h2
   rw [OQ ax] at h2
   split at h2
   case h_2=>cases h2
   rename_i v1 T hm
   simp only [Option.some.injEq,Prod.mk.injEq] at h2
   obtain ⟨rfl,rfl⟩:=h2
   rw [PH] at S
   by_cases F:∃i∈y.mask,base+i=j
   ·have:=RV base H1 y.mask T F (by omega)
    unfold NF
    rw [Na,this]
    exact l
   ·have g:∀i∈y.mask,base+i≠j:=fun i hi e=>F ⟨i,hi,e⟩
    rw [ey] at hm
    have hk:=Nj1 hm q hq ao
    have e2:NF (OD base y.mask H1) j=NF H1 j:=by
     unfold NF;rw [Na,QP base y.mask _ g,<-Na]
    rw [e2,l] at hk
    unfold NF at hk⊢
    rw [Na,Rx base H1 y.mask T g,<-Na]
    exact hk
  have F:∀q,ev fr (.tmp t)=.pointer (some q)->∀{j:Nat} {ro:Bool} {c:List Value},j≠q.block->NF (OD base x.mask H1) j=.cells ro c->NF (OD base x.mask I) j=.cells ro c:=fun q hq {j ro c} ao l=>by
   have P:j<H1.length:=by
    have:=(List.getElem?_eq_some_iff.1 (WE l (by intro e;cases e))).1
    rwa [OX] at this
   by_cases hm:∃i∈x.mask,base+i=j
   ·have:=UV base x.mask _ hm P
    unfold NF at l
    rw [Na,this] at l
    cases l
   ·have g:∀i∈x.mask,base+i≠j:=fun i hi e=>hm ⟨i,hi,e⟩
    have e1:NF (OD base x.mask H1) j=NF H1 j:=by
     unfold NF;rw [Na,QP base x.mask _ g,<-Na]
    have e2:NF (OD base x.mask I) j=NF I j:=by
     unfold NF;rw [Na,QP base x.mask _ g,<-Na]
    rw [e1] at l
    rw [e2]
    exact O q hq ao l
  unfold PM at h1⊢
  rw [OQ V] at h1⊢
  split at h1
  case h_2=>cases h1
  rename_i v1 T hm
  simp only [Option.some.injEq,Prod.mk.injEq] at h1
  obtain ⟨rfl,_⟩:=h1
  have:=Y8 Z V hm
  subst this
  rw [ex] at hm⊢
  rw [Npb F hm]
  simp only [SN]
 rcases E with E | ⟨J,U⟩
 case inr=>
  have Z:kind x.op=.r:=by cases hx:x.op<;>rw [hx] at J<;>simp [Zl] at J<;>rfl
  have V:∀mp f args,x.op≠.call mp f args:=fun mp f args e=>by rw [e] at J;simp [Zl] at J
  have e1:=XW W Z h1
  subst e1
  refine ⟨I,h2, ?_⟩
  have S:H1.length<=I.length:=Xw W X hl h2
  have O:∀{j:Nat},Tz (NF H1 j)=true->NF I j=NF H1 j:=fun {j} l=>by
   obtain ⟨ro,c,ac⟩:=U3 l
   have P:j<H1.length:=(List.getElem?_eq_some_iff.1 (WE ac (by intro e;cases e))).1
   unfold PM at h2
   split at h2
   case h_2=>cases h2
   rename_i v1 T hm
   simp only [Option.some.injEq,Prod.mk.injEq] at h2
   obtain ⟨rfl,rfl⟩:=h2
   rw [PH] at S
   by_cases F:∃i∈y.mask,base+i=j
   ·have:=RV base H1 y.mask T F (by omega)
    unfold NF
    rw [Na,this]
    rfl
   ·have g:∀i∈y.mask,base+i≠j:=fun i hi e=>F ⟨i,hi,e⟩
    have al:NF (OD base y.mask H1) j=NF H1 j:=by
     unfold NF
     rw [Na,QP base y.mask _ g,<-Na]
    have an:Xg (OD base y.mask H1) T=true:=by
     cases hyo:y.op<;>rw [hyo] at U hm<;>simp [isRecs] at U
     rename_i mp f args
     cases mp<;>simp at U
     simp only [Ry] at hm
     split at hm
     case h_2=>cases hm
     exact Nbb hm
    have:=Nh4 an (by rw [al];exact l)
    rw [al] at this
    unfold NF at this⊢
    rw [Na,Rx base H1 y.mask T g,<-Na]
    exact this
  have F:∀{j:Nat},Tz (NF (OD base x.mask H1) j)=true->NF (OD base x.mask I) j=NF (OD base x.mask H1) j:=fun {j} l=>by
   obtain ⟨ro,c,ac⟩:=U3 l
   have P:j<H1.length:=by
    have:=(List.getElem?_eq_some_iff.1 (WE ac (by intro e;cases e))).1
    rwa [OX] at this
   by_cases hm:∃i∈x.mask,base+i=j
   ·have:=UV base x.mask _ hm P
    unfold NF at ac
    rw [Na,this] at ac
    cases ac
   ·have g:∀i∈x.mask,base+i≠j:=fun i hi e=>hm ⟨i,hi,e⟩
    have e1:NF (OD base x.mask H1) j=NF H1 j:=by
     unfold NF;rw [Na,QP base x.mask _ g,<-Na]
    have e2:NF (OD base x.mask I) j=NF I j:=by
     unfold NF;rw [Na,QP base x.mask _ g,<-Na]
    rw [e1] at l
    rw [e1,e2]
    exact O l
  unfold PM at h1⊢
  rw [OQ V] at h1⊢
  split at h1
  case h_2=>cases h1
  rename_i v1 T hm
  simp only [Option.some.injEq,Prod.mk.injEq] at h1
  obtain ⟨rfl,_⟩:=h1
  have:=Y8 Z V hm
  subst this
  rw [Npa J F hm]
  simp only [SN]
 rcases E with E | ⟨J,U⟩
 case inr=>
  have Z:kind x.op=.r:=by cases hx:x.op<;>rw [hx] at J<;>simp [isLoad] at J<;>rfl
  have V:∀mp f args,x.op≠.call mp f args:=fun mp f args e=>by rw [e] at J;simp [isLoad] at J
  have e1:=XW W Z h1
  subst e1
  refine ⟨I,h2, ?_⟩
  have S:H1.length<=I.length:=Xw W X hl h2
  have O:∀{j:Nat} {ro:Bool} {c:List Value},NF H1 j=.cells ro c->NF I j=.cells ro c:=fun {j ro c} l=>by
   have P:j<H1.length:=(List.getElem?_eq_some_iff.1 (WE l (by intro e;cases e))).1
   unfold PM at h2
   split at h2
   case h_2=>cases h2
   rename_i v1 T hm
   simp only [Option.some.injEq,Prod.mk.injEq] at h2
   obtain ⟨rfl,rfl⟩:=h2
   rw [PH] at S
   by_cases F:∃i∈y.mask,base+i=j
   ·have:=RV base H1 y.mask T F (by omega)
    unfold NF
    rw [Na,this]
    exact l
   ·have g:∀i∈y.mask,base+i≠j:=fun i hi e=>F ⟨i,hi,e⟩
    have al:NF (OD base y.mask H1) j=.cells ro c:=by
     unfold NF
     rw [Na,QP base y.mask _ g,<-Na]
     exact l
    have an:VR (OD base y.mask H1) T=true:=by
     cases hyo:y.op<;>rw [hyo] at U hm<;>simp [isMaps] at U
     rename_i mp f args
     cases mp<;>simp at U
     simp only [Ry] at hm
     split at hm
     case h_2=>cases hm
     exact (SG hm).2 rfl
    have:=Nf8 an al
    unfold NF at this⊢
    rw [Na,Rx base H1 y.mask T g,<-Na]
    exact this
  have F:∀{j:Nat} {ro:Bool} {c:List Value},NF (OD base x.mask H1) j=.cells ro c->NF (OD base x.mask I) j=.cells ro c:=fun {j ro c} l=>by
   have P:j<H1.length:=by
    have:=(List.getElem?_eq_some_iff.1 (WE l (by intro e;cases e))).1
    rwa [OX] at this
   by_cases hm:∃i∈x.mask,base+i=j
   ·have:=UV base x.mask _ hm P
    unfold NF at l
    rw [Na,this] at l
    cases l
   ·have g:∀i∈x.mask,base+i≠j:=fun i hi e=>hm ⟨i,hi,e⟩
    have e1:NF (OD base x.mask H1) j=NF H1 j:=by
     unfold NF;rw [Na,QP base x.mask _ g,<-Na]
    have e2:NF (OD base x.mask I) j=NF I j:=by
     unfold NF;rw [Na,QP base x.mask _ g,<-Na]
    rw [e1] at l
    rw [e2]
    exact O l
  unfold PM at h1⊢
  rw [OQ V] at h1⊢
  split at h1
  case h_2=>cases h1
  rename_i v1 T hm
  simp only [Option.some.injEq,Prod.mk.injEq] at h1
  obtain ⟨rfl,_⟩:=h1
  have:=Y8 Z V hm
  subst this
  rw [No7 J F hm]
  simp only [SN]
 rcases E with E | ⟨J,U⟩
 case inr=>
  have Z:kind x.op=.r:=by cases hx:x.op<;>rw [hx] at J<;>simp [isRead] at J<;>rfl
  have V:∀mp f args,x.op≠.call mp f args:=fun mp f args e=>by rw [e] at J;simp [isRead] at J
  have e1:=XW W Z h1
  subst e1
  refine ⟨I,h2, ?_⟩
  have S:H1.length<=I.length:=Xw W X hl h2
  have O:∀j,j<H1.length->I[j]? = H1[j]?:=fun j l=>by
   unfold PM at h2
   split at h2
   case h_2=>cases h2
   rename_i v1 T hm
   simp only [Option.some.injEq,Prod.mk.injEq] at h2
   obtain ⟨rfl,rfl⟩:=h2
   rw [PH] at S
   have hk:∀j,j<(OD base y.mask H1).length->T[j]? = (OD base y.mask H1)[j]?:=by
    cases hyo:y.op<;>rw [hyo] at U hm<;>simp [N3p] at U
    rename_i mp f args
    cases mp<;>simp at U
    simp only [Ry] at hm
    split at hm
    case h_2=>cases hm
    exact W.keep _ _ _ _ _ _ _ (SG hm).1 (Nd _)
   by_cases F:∃i∈y.mask,base+i=j
   ·rw [RV base H1 y.mask T F (by omega),MJ l]
   ·have g:∀i∈y.mask,base+i≠j:=fun i hi e=>F ⟨i,hi,e⟩
    rw [Rx base H1 y.mask T g,hk j (by rw [OX];exact l),QP base y.mask _ g]
  have F:∀(j:Nat) b,(OD base x.mask H1)[j]? = some b->(OD base x.mask I)[j]? = some b:=fun j b l=>by
   have P:j<H1.length:=by
    have:=(List.getElem?_eq_some_iff.1 l).1
    rwa [OX] at this
   by_cases hm:∃i∈x.mask,base+i=j
   ·rw [UV base x.mask _ hm P] at l
    rw [UV base x.mask _ hm (by omega)];exact l
   ·have g:∀i∈x.mask,base+i≠j:=fun i hi e=>hm ⟨i,hi,e⟩
    rw [QP base x.mask _ g] at l⊢
    rw [O j P];exact l
  unfold PM at h1⊢
  rw [OQ V] at h1⊢
  split at h1
  case h_2=>cases h1
  rename_i v1 T hm
  simp only [Option.some.injEq,Prod.mk.injEq] at h1
  obtain ⟨rfl,_⟩:=h1
  have:=Y8 Z V hm
  subst this
  rw [Nsw J F hm]
  simp only [SN]
 rcases E with E | ⟨hL,ad⟩
 case inr=>
  obtain ⟨Z,mx,_⟩:=Ncy hL
  have ky:kind y.op=.r:=by cases X:y.op<;>rw [X] at ad<;>simp [isLoad] at ad<;>rfl
  have e2:=XW W ky h2
  subst e2
  refine ⟨H, ?_,h1⟩
  obtain ⟨d,hd⟩:=hx.dest mx
  have aw:=hs.maskY (.inl ky) d hd
  have hk:∀(j:Nat) b,b≠.dead->(OD base y.mask I)[j]? = some b->(OD base y.mask H)[j]? = some b:=by
   intro j b L l
   have S:I.length=H.length:=by
    unfold PM at h1
    rw [OQ (Y3 (.inr (.inr Z))),hd] at h1
    simp only [Nv] at h1
    split at h1
    case h_2=>cases h1
    rename_i v1 T hm
    cases h1
    rw [PH,XJ Z hm,OX]
   have P:j<I.length:=by
    have:=(List.getElem?_eq_some_iff.1 l).1
    rwa [OX] at this
   by_cases hm:∃i∈y.mask,base+i=j
   ·rw [UV base y.mask I hm P] at l
    cases l;exact absurd rfl L
   ·have g:∀i∈y.mask,base+i≠j:=fun i hi e=>hm ⟨i,hi,e⟩
    rw [QP base y.mask _ g] at l⊢
    unfold PM at h1
    rw [OQ (Y3 (.inr (.inr Z))),hd] at h1
    simp only [Nv] at h1
    split at h1
    case h_2=>cases h1
    rename_i v1 T F
    cases h1
    by_cases au:∃i∈x.mask,base+i=j
    ·rw [RV base H x.mask T au (by rwa [PH] at P)] at l
     rw [<-l,MJ (by omega)]
    ·have am:∀i∈x.mask,base+i≠j:=fun i hi e=>au ⟨i,hi,e⟩
     rw [Rx base H x.mask T am] at l
     rcases Nug hL F j (fun e=>g d aw e.symm) with h | h
     ·rw [h,QP base x.mask _ am] at l;exact l
     ·rw [h] at l;cases l;exact absurd rfl L
  have ag:∀{j:Nat} {ro:Bool} {c:List Value},NF (OD base y.mask I) j=.cells ro c->NF (OD base y.mask H) j=.cells ro c:=fun {j ro c} h=>by
   have:=hk j _ (by intro e;cases e) (WE h (by intro e;cases e))
   unfold NF;rw [Na,this];rfl
  have aq:∀mp f args,y.op≠.call mp f args:=fun mp f args e=>by rw [e] at ad;simp [isLoad] at ad
  have ar:NJ lim (y.dest.map (base+·)) y.op (ev fr) (OD base y.mask H)=some (u,OD base y.mask H):=by
   unfold PM at h2
   rw [OQ aq] at h2
   split at h2
   case h_2=>cases h2
   rename_i v1 T hm
   simp only [Option.some.injEq,Prod.mk.injEq] at h2
   obtain ⟨rfl,_⟩:=h2
   cases hyo:y.op<;>rw [hyo] at ad hm<;>simp [isLoad] at ad
   ·simp only [NJ] at hm⊢
    split at hm
    ·rename_i p hp
     simp only [Nc,Prod.mk.injEq] at hm
     obtain ⟨z,hz,rfl,_⟩:=hm
     have:AM.loadCell (OD base y.mask H) p=some z:=by
      unfold AM.loadCell at hz⊢
      split at hz
      ·rename_i L;rw [ag L];exact hz
      ·cases hz
     rw [this];rfl
    ·cases hm
   ·rename_i nn oa
    simp only [NJ] at hm⊢
    split at hm
    ·rename_i p hp
     simp only [Nc,Prod.mk.injEq] at hm
     obtain ⟨z,hz,rfl,_⟩:=hm
     have:AM.loadCells (OD base y.mask H) p nn=some z:=by
      unfold AM.loadCells at hz⊢
      split at hz
      ·rename_i L;rw [ag L];exact hz
      ·cases hz
     rw [this];rfl
    ·cases hm
  unfold PM
  rw [OQ aq,ar]
  simp only [SN]
 by_cases av:kind x.op=.s
 ·obtain ⟨r,hr⟩:=hx.home (Vh av)
  obtain ⟨b,rfl,o⟩:=Nqe hx av hr h1
  by_cases ai:kind y.op=.s
  ·obtain ⟨r',G⟩:=X.home (Vh ai)
   obtain ⟨b',rfl,M⟩:=Nqe X ai G h2
   have Y:r≠r':=fun e=>hs.dests r hr (by rw [G,e])
   exact ⟨_,M H (Xp (by omega)).symm,by rw [o _ (Xp (by omega)),List.set_comm _ _ (by omega)]⟩
  by_cases ab:kind y.op=.a
  ·obtain ⟨r',G⟩:=X.dest (Zh ab)
   obtain ⟨b',rfl,M⟩:=Nfd X ab G h2
   have Y:r≠r':=fun e=>hs.dests r hr (by rw [G,e])
   exact ⟨_,M H,by rw [o _ (Xp (by omega)),List.set_comm _ _ (by omega)]⟩
  ·have ky:kind y.op=.r\/kind y.op=.w\/kind y.op=.n\/kind y.op=.c:=by
    cases hk:kind y.op<;>simp_all
   rw [Uw W X (hs.maskY ky r hr) _ _ _ hl (aa r (.inl hr))] at h2
   cases L:PM C lim base y (ev fr) H with
   | none=>rw [L] at h2;cases h2
   | some p=>
     obtain ⟨u',R⟩:=p
     rw [L] at h2
     cases h2
     exact ⟨R,rfl,o R (Nfc W X (hs.maskY ky r hr) hl (aa r (.inl hr)) L)⟩
 by_cases ai:kind y.op=.s
 ·obtain ⟨r,hr⟩:=X.home (Vh ai)
  obtain ⟨b,rfl,o⟩:=Nqe X ai hr h2
  by_cases ah:kind x.op=.a
  ·obtain ⟨r',G⟩:=hx.dest (Zh ah)
   obtain ⟨b',rfl,M⟩:=Nfd hx ah G h1
   have Y:r'≠r:=fun e=>hs.dests r' G (by rw [hr,e])
   exact ⟨_,o H (Xp (by omega)).symm,by rw [M,List.set_comm _ _ (by omega)]⟩
  ·have Z:kind x.op=.r\/kind x.op=.w\/kind x.op=.n\/kind x.op=.c:=by
    cases hk:kind x.op<;>simp_all
   exact ⟨_,o H (Nfc W hx (hs.maskX Z r hr) hl (aa r (.inr hr)) h1).symm,by rw [Uw W hx (hs.maskX Z r hr) _ _ _ hl (aa r (.inr hr)),h1];rfl⟩
 by_cases ah:kind x.op=.a
 ·obtain ⟨r,hr⟩:=hx.dest (Zh ah)
  obtain ⟨b,rfl,o⟩:=Nfd hx ah hr h1
  by_cases ab:kind y.op=.a
  ·obtain ⟨r',G⟩:=X.dest (Zh ab)
   obtain ⟨b',rfl,M⟩:=Nfd X ab G h2
   have Y:r≠r':=fun e=>hs.dests r hr (by rw [G,e])
   exact ⟨_,M H,by rw [o,List.set_comm _ _ (by omega)]⟩
  ·have ky:kind y.op=.r\/kind y.op=.w\/kind y.op=.n\/kind y.op=.c:=by
    cases hk:kind y.op<;>simp_all [conflict]
   rw [Uw W X (hs.maskY ky r hr) _ _ _ hl (aa r (.inl hr))] at h2
   cases L:PM C lim base y (ev fr) H with
   | none=>rw [L] at h2;cases h2
   | some p=>
     obtain ⟨u',R⟩:=p
     rw [L] at h2
     cases h2
     exact ⟨R,rfl,o R⟩
 by_cases ab:kind y.op=.a
 ·obtain ⟨r,hr⟩:=X.dest (Zh ab)
  obtain ⟨b,rfl,o⟩:=Nfd X ab hr h2
  have Z:kind x.op=.r\/kind x.op=.w\/kind x.op=.n\/kind x.op=.c:=by
   cases hk:kind x.op<;>simp_all [conflict]
  exact ⟨_,o H,by rw [Uw W hx (hs.maskX Z r hr) _ _ _ hl (aa r (.inr hr)),h1];rfl⟩
 have ak:(kind x.op=.r\/kind x.op=.n)/\(kind y.op=.r\/kind y.op=.n):=by
  cases hk:kind x.op<;>cases hk':kind y.op<;>simp_all [conflict]
 by_cases ap:kind x.op=.n\/kind y.op=.n
 ·have sx:H1=H\/∃r b,x.dest=some r/\H1=H.set (base+r) b:=by
   rcases ak.1 with k | k
   ·exact .inl (XW W k h1)
   ·obtain ⟨r,hr,h | ⟨b,h⟩⟩:=N1n hx k h1
    ·exact .inl h
    ·exact .inr ⟨r,b,hr,h⟩
  have ay:kind x.op=.r\/kind x.op=.w\/kind x.op=.n\/kind x.op=.c:=by rcases ak.1 with k | k<;>simp [k]
  have a0:kind y.op=.r\/kind y.op=.w\/kind y.op=.n\/kind y.op=.c:=by rcases ak.2 with k | k<;>simp [k]
  have sy:∀{A B:NE} {z:Value},PM C lim base y (ev fr) A=some (z,B)->B=A\/∃r b,y.dest=some r/\B=A.set (base+r) b:=by
   intro A B z h
   rcases ak.2 with k | k
   ·exact .inl (XW W k h)
   ·obtain ⟨r,hr,h | ⟨b,h⟩⟩:=N1n X k h
    ·exact .inl h
    ·exact .inr ⟨r,b,hr,h⟩
  have later:∀{u:Value} {K:NE},PM C lim base y (ev fr) H=some (u,K)->∃K2,PM C lim base x (ev fr) K=some (v,K2)/\(∀r b,y.dest=some r->K=H.set (base+r) b->K2=H1.set (base+r) b)/\(K=H->K2=H1):=by
   intro u K hK
   rcases sy hK with rfl | ⟨r,b,hr,rfl⟩
   ·refine ⟨H1,h1,fun r b hr L=>?_,fun _=>rfl⟩
    rcases sx with rfl | ⟨r',b',G,rfl⟩
    ·exact L
    ·have Y:r'≠r:=fun e=>hs.dests r' G (by rw [hr,e])
     rw [List.set_comm _ _ (by omega),<-L]
   ·refine ⟨H1.set (base+r) b,by rw [Uw W hx (hs.maskX ay r hr) _ _ _ hl (aa r (.inr hr)),h1];rfl,fun r' b' G L=>?_,fun L=>?_⟩
    ·rw [hr] at G;cases G
     rcases sx with rfl | ⟨r2,b2,Q,rfl⟩
     ·exact L
     ·have Y:r2≠r:=fun e=>hs.dests r2 Q (by rw [hr,e])
      rw [List.set_comm _ _ (by omega),List.set_comm _ _ (by omega:base+r2≠base+r),L]
    ·rcases sx with rfl | ⟨r2,b2,Q,rfl⟩
     ·exact L
     ·have Y:r2≠r:=fun e=>hs.dests r2 Q (by rw [hr,e])
      rw [List.set_comm _ _ (by omega),L]
  have a2:∃K,PM C lim base y (ev fr) H=some (u,K)/\(∀r b,x.dest=some r->H1=H.set (base+r) b->I=K.set (base+r) b)/\(H1=H->I=K):=by
   rcases sx with rfl | ⟨r,b,hr,rfl⟩
   ·refine ⟨I,h2,fun r b hr L=>?_,fun _=>rfl⟩
    rcases sy h2 with rfl | ⟨r2,b2,Q,rfl⟩
    ·exact L
    ·have Y:r≠r2:=fun e=>hs.dests r hr (by rw [Q,e])
     rw [List.set_comm _ _ (by omega),<-L]
   ·rw [Uw W X (hs.maskY a0 r hr) _ _ _ hl (aa r (.inl hr))] at h2
    cases L:PM C lim base y (ev fr) H with
    | none=>rw [L] at h2;cases h2
    | some p=>
      obtain ⟨u',K⟩:=p
      rw [L] at h2
      cases h2
      refine ⟨K,rfl,fun r' b' G ae=>?_,fun ae=>?_⟩
      ·rw [hr] at G;cases G
       rcases sy L with rfl | ⟨r2,b2,Q,rfl⟩
       ·exact ae
       ·have Y:r≠r2:=fun e=>hs.dests r hr (by rw [Q,e])
        rw [List.set_comm _ _ (by omega),List.set_comm _ _ (by omega:base+r2≠base+r),ae]
      ·rcases sy L with rfl | ⟨r2,b2,Q,rfl⟩
       ·exact ae
       ·have Y:r≠r2:=fun e=>hs.dests r hr (by rw [Q,e])
        rw [List.set_comm _ _ (by omega),ae]
  obtain ⟨K,k1,k2,k3⟩:=a2
  obtain ⟨K2,m1,m2,m3⟩:=later k1
  refine ⟨K,k1, ?_⟩
  rw [m1]
  congr 2
  rcases sx with rfl | ⟨r,b,hr,L⟩
  ·rw [k3 rfl]
   rcases sy k1 with e | ⟨r2,b2,Q,e⟩
   ·rw [m3 e,e]
   ·rw [m2 r2 b2 Q e,e]
  ·rw [k2 r b hr L]
   rcases sy k1 with e | ⟨r2,b2,Q,e⟩
   ·rw [m3 e,L,e]
   ·have Y:r≠r2:=fun e=>hs.dests r hr (by rw [Q,e])
    rw [m2 r2 b2 Q e,L,e,List.set_comm _ _ (by omega)]
 have kr:kind x.op=.r/\kind y.op=.r:=by
  rcases ak with ⟨k1 | k1,k2 | k2⟩
  ·exact ⟨k1,k2⟩
  ·exact absurd (.inr k2) ap
  ·exact absurd (.inl k1) ap
  ·exact absurd (.inl k1) ap
 have e1:=XW W kr.1 h1
 subst e1
 have e2:=XW W kr.2 h2
 subst e2
 exact ⟨_,h2,h1⟩
theorem N0a (w:CallOk0 C) {x y:AIns} (z:Planned x) (A:Planned y) (hs:Sep x y) {fr fr1 f:Nat->Value} {H H1 l:NE} (hl:lim<=H.length) (k:∀r,x.dest=some r\/y.dest=some r->base+r<H.length) (h1:TA C N lim (some base) x fr H=some (fr1,H1)) (h2:TA C N lim (some base) y fr1 H1=some (f,l)) :
  ∃b c,TA C N lim (some base) y fr H=some (b,c)/\TA C N lim (some base) x b c=some (f,l):=by
 have a:=hs.apart
 unfold Nbh at a
 have o:∀d,x.dst=some d->d∉y.looks:=fun d e=>by rw [e] at a;simp at a;exact a.1.1
 have q:∀d,x.dst=some d->y.dst≠some d:=fun d e=>by rw [e] at a;simp at a;exact a.1.2
 have s:∀d,y.dst=some d->d∉x.looks:=fun d e=>by rw [e] at a;simp at a;exact a.2
 unfold TA at h1 h2
 cases hv:SF C N lim (some base) x fr H with
 | none=>rw [hv] at h1;cases h1
 | some p=>
 obtain ⟨v,n⟩:=p
 rw [hv] at h1
 simp only [Nc,Prod.mk.injEq] at h1
 obtain ⟨f1,g,rfl,rfl⟩:=h1
 rw [Nej g o] at h2
 cases hu:SF C N lim (some base) y fr n with
 | none=>rw [hu] at h2;cases h2
 | some p=>
 obtain ⟨u,B⟩:=p
 rw [hu] at h2
 simp only [Nc,Prod.mk.injEq] at h2
 obtain ⟨f2,j,rfl,rfl⟩:=h2
 obtain ⟨h,e1,e2⟩:=Nsc w z A hs hl k hv hu
 obtain ⟨i,m,t⟩:=put_comm g j q
 refine ⟨i,h,by simp only [TA,e1,m];rfl, ?_⟩
 unfold TA
 rw [Nej m s,e2]
 simp [t]
def YJ (C:TP) (N lim:Nat) (base:Option Nat):List AIns->(Nat->Value)->NE->Option ((Nat->Value)×NE)
 | [],fr,H=>some (fr,H)
 | i::l,fr,H=>match TA C N lim base i fr H with
   | some (fr',H')=>YJ C N lim base l fr' H'
   | none=>none
theorem Xt {b:Option Nat} {i:AIns} {l:List AIns} {fr:Nat->Value} {H:NE} {r} (h:YJ C N lim b (i::l) fr H=some r):∃fr' H',TA C N lim b i fr H=some (fr',H')/\YJ C N lim b l fr' H'=some r:=by
 simp only [YJ] at h
 split at h
 ·rename_i fr' H' h1;exact ⟨fr',H',h1,h⟩
 ·cases h
theorem N3s (a:CallOk0 C) {i:AIns} (hp:Planned i) {fr fr':Nat->Value} {H H':NE} (hl:lim<=H.length) (h:TA C N lim (some base) i fr H=some (fr',H')):H.length<=H'.length:=by
 unfold TA at h
 cases hv:SF C N lim (some base) i fr H with
 | none=>rw [hv] at h;cases h
 | some p=>
   obtain ⟨v,K⟩:=p
   rw [hv] at h
   simp only [Nc,Prod.mk.injEq] at h
   obtain ⟨f,c,rfl,rfl⟩:=h
   rw [Sq] at hv
   cases hw:RG N fr i.guard with
   | none=>rw [hw] at hv;cases hv
   | some b=>
     rw [hw] at hv
     cases b with
     | false=>cases hv;exact Nd _
     | true=>exact Xw a hp hl hv
theorem N1l (d:CallOk0 C) {x:AIns} (i:Planned x) (B:List AIns):∀(A:List AIns) (fr:Nat->Value) (H:NE) (r),lim<=H.length->(∀r,x.dest=some r->base+r<H.length)->(∀a∈A,(Planned a/\Sep a x)/\∀r,a.dest=some r->base+r<H.length)->YJ C N lim (some base) (A++x::B) fr H=some r->
  YJ C N lim (some base) (x::(A++B)) fr H=some r
 | [],fr,H,r,_,_,_,h=>h
 | a::A,fr,H,r,hl,c,hA,h=>by
   obtain ⟨fr1,H1,h1,h2⟩:=Xt h
   obtain ⟨⟨j,p⟩,l⟩:=hA a No
   have g:=N3s d j hl h1
   have ih:=N1l d i B A fr1 H1 r (by omega) (fun r hr=>by have:=c r hr;omega) (fun b f=>⟨(hA b (Nk _ f)).1,fun r hr=>by have:=(hA b (Nk _ f)).2 r hr;omega⟩) h2
   obtain ⟨m,q,n,o⟩:=Xt ih
   obtain ⟨e,k,e1,e2⟩:=N0a d j i p hl (fun r hr=>by rcases hr with hr | hr;exact l r hr;exact c r hr) h1 n
   simp only [Ox,YJ,e1,e2]
   exact o
end
structure Grow (lim:Nat) (H H':NE):Prop where
 new:∀(j:Nat) b,H'[j]? = some b->alive b=true->H[j]? = some b\/(owned b=true/\lim<=j)
 keep:∀j,j<lim->H'[j]? = H[j]?
instance {lim:Nat} {H H':NE}:CoeFun (Grow lim H H') (fun _=>∀(j:Nat) b,H'[j]? = some b->alive b=true->H[j]? = some b\/(owned b=true/\lim<=j)):=⟨Grow.new⟩
theorem Grow.refl (lim:Nat) (H:NE):Grow lim H H:=⟨fun _ _ h _=>.inl h,fun _ _=>rfl⟩
theorem Grow.trans {lim:Nat} {A B C:NE} (h:Grow lim A B) (k:Grow lim B C):Grow lim A C:=⟨fun j b d a=>by
 rcases k.new j b d a with h1 | h1
 ·exact h.new j b h1 a
 ·exact .inr h1,fun j c=>(k.keep j c).trans (h.keep j c)⟩
theorem Grow.weaken {lim lim':Nat} {A B:NE} (h:Grow lim' A B) (hl:lim<=lim'):Grow lim A B:=⟨fun j b c a=>(h.new j b c a).imp id fun h=>⟨h.1,by omega⟩,fun j d=>h.keep j (by omega)⟩
theorem Grow.set {lim:Nat} {H:NE} {i:Nat} {b:Blk} (hl:lim<=i) (d:alive b=true->owned b=true):Grow lim H (H.set i b):=⟨fun j c hc a=>by
 rw [N3] at hc
 split at hc
 ·rename_i e
  split at hc
  ·cases hc;exact .inr ⟨d a,e▸hl⟩
  ·cases hc
 ·exact .inl hc,fun j f=>by rw [N3,Nh (by omega)]⟩
theorem Grow.app {lim:Nat} {H X:NE} (hl:lim<=H.length) (d:∀b∈X,alive b=true->owned b=true):Grow lim H (H++X):=⟨fun j c hc e=>by
 by_cases a:j<H.length
 ·rw [N6 a] at hc;exact .inl hc
 ·rw [Ob (by omega)] at hc
  exact .inr ⟨d c (Od hc) e,by omega⟩,fun j a=>N6 (by omega)⟩
theorem Grow.place {lim:Nat} {H:NE} {dest:Option Nat} {b:Blk} (a:owned b=true) (hd:∀d,dest=some d->lim<=d) (hl:lim<=H.length):Grow lim H (place dest b H).2:=by
 cases dest with
 | some d=>exact Grow.set (hd d rfl) fun _=>a
 | none=>exact Grow.app hl fun c hc _=>by simp at hc;subst hc;exact a
theorem Grow.dead {lim:Nat} {H:NE} (hl:lim<=H.length) (n:Nat):Grow lim H (H++List.replicate n .dead):=
 Grow.app hl fun b c a=>by rw [(List.mem_replicate.1 c).2] at a;simp [alive] at a
theorem TD {lim:Nat} {H H':NE} {a:Addr} {vs:List Value} (h:storeAt lim H a vs=some H'):Grow lim H H':=by
 unfold storeAt at h
 split at h
 ·split at h
  ·rename_i hc;cases h;exact Grow.set hc.1 fun _=>rfl
  ·cases h
 ·cases h
theorem Nfl {o:AOp} (hL:isL o=false) {lim:Nat} {dest:Option Nat} {ρ:Operand->Value} {H H':NE} {v:Value} (hn:kind o≠.n) (h:NJ lim dest o ρ H=some (v,H')) (hd:∀d,dest=some d->lim<=d) (hl:lim<=H.length):Grow lim H H':=by
 cases hk:kind o with
 | n=>exact absurd hk hn
 | p=>rw [(Nz4 hk h).1];exact Grow.refl _ _
 | r=>
   by_cases hc:∃mp f args,o=.call mp f args
   ·obtain ⟨mp,f,args,rfl⟩:=hc;simp [NJ] at h
   ·rw [Y8 hk (fun mp f args e=>hc ⟨mp,f,args,e⟩) h];exact Grow.refl _ _
 | c=>
   cases o<;>simp [kind] at hk
   simp [NJ] at h
 | a=>
   cases o<;>simp [kind] at hk<;>simp only [NJ] at h
   case alloc=>cases h;exact Grow.place (b:=.cells false _) rfl hd hl
   case box=>
    split at h
    case isFalse=>cases h
    cases h;exact Grow.place (b:=.cells false _) rfl hd hl
   case buildSlice=>
    split at h
    case h_2=>cases h
    cases h;exact Grow.place (b:=.cells false _) rfl hd hl
   case makeSlice=>
    split at h
    case h_2=>cases h
    split at h
    case isFalse=>cases h
    cases h;exact Grow.place (b:=.cells false _) rfl hd hl
   case growNil=>
    split at h
    case h_2=>cases h
    split at h
    case isFalse=>cases h
    cases h;exact Grow.place (b:=.cells false _) rfl hd hl
   case makeMap=>
    split at h
    case h_2=>cases h
    cases h;exact Grow.place (b:=.map []) rfl hd hl
   case call mp f args=>split at hk<;>cases hk
 | s=>
   have hs:=Vh hk
   cases o<;>simp [Yk] at hs
   rename_i n a x
   have h':=WJ h
   simp only [Zy,NJ] at h'
   split at h'
   ·split at h'
    ·simp only [Nc,Prod.mk.injEq] at h';obtain ⟨_,h1,_,rfl⟩:=h';exact TD h1
    ·cases h'
   ·cases h'
 | w=>
   cases o<;>simp [kind] at hk<;>simp only [NJ] at h
   case store=>
    split at h
    ·split at h
     ·simp only [Nc,Prod.mk.injEq] at h;obtain ⟨_,h1,_,rfl⟩:=h;exact TD h1
     ·cases h
    ·cases h
   case storeO=>
    split at h
    ·split at h
     ·simp only [Nc,Prod.mk.injEq] at h;obtain ⟨_,h1,_,rfl⟩:=h;exact TD h1
     ·cases h
    ·cases h
   case append=>
    unfold OT at h
    split at h
    case h_2=>cases h
    split at h
    ·cases h
    split at h
    ·cases h;exact Grow.refl _ _
    split at h
    ·split at h
     ·cases h;exact Grow.place (b:=.cells false _) rfl hd hl
     ·cases h
    ·split at h
     ·cases h
     split at h
     ·split at h
      ·split at h
       ·cases h
        exact (Grow.set (b:=.dead) ‹lim<=_› fun h=>by simp [alive] at h).trans (Grow.place (b:=.cells false _) rfl hd (by simpa using hl))
       ·cases h
      ·cases h
     ·split at h
      ·split at h
       ·split at h
        ·rename_i h1;cases h;exact TD h1
        ·cases h
       ·cases h;exact Grow.place (b:=.cells false _) rfl hd hl
      ·cases h
   case copy=>
    split at h
    ·split at h
     ·split at h
      ·split at h
       ·cases h;exact Grow.refl _ _
       ·simp only [Nc,Prod.mk.injEq] at h;obtain ⟨_,h1,_,rfl⟩:=h;exact TD h1
      ·split at h
       ·cases h;exact Grow.refl _ _
       ·cases h
     ·cases h
    ·cases h
   case mapUpdate=>
    split at h
    ·split at h
     ·split at h
      ·rename_i hc
       split at h<;>cases h
       ·exact Grow.set hc.2 fun _=>rfl
       ·exact Grow.set hc.2 fun _=>rfl
      ·cases h
     ·cases h
    ·cases h
   case clear=>
    split at h
    ·split at h
     ·cases h;exact Grow.refl _ _
     ·simp only [Nc,Prod.mk.injEq] at h;obtain ⟨_,h1,_,rfl⟩:=h;exact TD h1
    ·cases h
   case delete=>cases h
   case call mp f args=>split at hk<;>cases hk
   case appendL=>simp [isL] at hL
theorem Nhp {o:AOp} {lim:Nat} {dest:Option Nat} {ρ:Operand->Value} {H H':NE} {v:Value} (hn:kind o≠.n) (h:NJ lim dest o ρ H=some (v,H')) (hd:∀d,dest=some d->lim<=d) (hl:lim<=H.length):Grow lim H H':=by
 cases hL:isL o with
 | false=>exact Nfl hL hn h hd hl
 | true=>obtain ⟨_,_,h1,h2,_⟩:=Ncy hL;exact Nfl h1 (by rw [h2];simp) (WJ h) hd hl
theorem Nfm {o:AOp} {lim:Nat} {dest:Option Nat} {ρ:Operand->Value} {H H':NE} {v:Value} (h:NJ lim dest o ρ H=some (v,H')) (hd:∀d,dest=some d->lim<=d) (hl:lim<=H.length):Grow lim H H':=by
 by_cases hn:kind o=.n
 ·cases o<;>(try (simp [kind] at hn;done))
  ·exact Nhp (by simp [Zy,kind]) (WJ h) hd hl
  ·rename_i mp f as'
   cases mp<;>simp [kind,CM.isPure] at hn
 ·exact Nhp hn h hd hl
def Td (Pg:Prg) (W:Nat->Prop) (lim:Nat) (σ:PK) (H:NE) (v:Value) (H':NE) (w:World):Ending->World->Prop:=fun e w'=>
 ∃v' a,e=.returned v'/\VRel a v v'/\Inv Pg W lim a H' w'/\Stp W w w'/\PK.le σ a/\∀j,a j≠σ j->H.length<=j
def Tf (r:Loop) (args:Array Value):Array Value:=(r.params.zip args).foldl (fun tmps (t,a)=>tmps.setIfInBounds t a) r.tmps
structure CallOk (Pg:Prg) (C:TP):Prop extends CallOk0 C where
 fn:∀mp lim g as H v H',C mp lim (.inl g) as H=some (v,H')->∃fn,Pg.P.funcs[g]? = some fn/\fn.body.isSome=true/\(fn.name == "runtime.NumGoroutine")=false
 calls:∀mp lim g as H v H',C mp lim (.inl g) as H=some (v,H')->lim<=H.length->∀W σ w as',Inv Pg W lim σ H w->OJ σ as as'->Calls Pg.P g as'.toArray w (Td Pg W lim σ H v H' w)
 rounds:∀mp lim i as H v H',C mp lim (.inr i) as H=some (v,H')->lim<=H.length->∀W σ w as' L,Inv Pg W lim σ H w->OJ σ as as'->σ i=some L->
  ∃r,w.heap[L.blk]? = some (.loop r)/\as'.toArray.size=r.params.size/\RoundIn Fence.wide 0 Pg.P L.blk r.fn (Tf r as'.toArray) r.assign r.body w (Td Pg W lim σ H v H' w)
 grow:∀mp lim g as H v H',C mp lim g as H=some (v,H')->lim<=H.length->Grow lim H H'
def WF (ro:Option Nat):Fence:={ Fence.wide with round:=ro }
theorem Mq {ro:Option Nat}:(WF ro).depth.isSome=true->1<=0:=fun h=>by cases h
theorem Ne6 {ro:Option Nat} {n:Nat} {P:Program} {f:FuncId} {args:Array Value} {w:World} {R:Ending->World->Prop} (h:Calls P f args w R):CallsIn (WF ro) n P f args w R:=
 ⟨trivial,(callsIn_wide (n:=n).2 h).2⟩
theorem Ndu {ro:Option Nat} {n m:Nat} {P:Program} {l:Nat} {f:FuncId} {tmps:Array Value} {assign body:Code} {w:World} {R:Ending->World->Prop} (h:RoundIn Fence.wide m P l f tmps assign body w R):RoundIn (WF ro) n P l f tmps assign body w R:=
 ⟨trivial,fun c cs _=>h.2 c cs (room_wide _)⟩
section
variable {P:Program} {pf pureF:FuncId->Bool} {C:TP} {W:Nat->Prop} {lim:Nat} {σ:PK} {H H':NE} {w:World} {dest:Option Nat}
def ZJ (Pp:Prg) (W:Nat->Prop) (lim:Nat) (σ:PK) (dest:Option Nat) (H:NE) (w:World) (v:Value) (H':NE) (v':Value) (w':World) (a:PK):Prop:=
 VRel a v v'/\Inv Pp W lim a H' w'/\Stp W w w'/\PK.le σ a/\(∀j,a j≠σ j->dest=some j\/H.length<=j)/\H.length<=H'.length/\Grow lim H H'
theorem Ne9 {ρ':Operand->Value} {o:Oper} {c:Call} (ho:o.op=.call c) {f:Operand} (hc:c.callee=.value f) {g:FuncId} {fi ca:Array Value} (hf:ρ' f=.func (.func g) fi ca)
  {fn:Func} (h1:P.funcs[g]? = some fn) (h2:fn.body.isSome=true) (h3:(fn.name == "runtime.NumGoroutine")=false) :
  (execOp ρ' o).run P w=.ok (.enter g (fi++c.args.map ρ'++ca)) w:=by
 have hb:fn.body.isNone=false:=by cases h:fn.body<;>simp_all
 have h3':¬(fn.name= "runtime.NumGoroutine"):=by simpa using h3
 simp [execOp,ho,resolve,hc,Deferred.ofValue,hf,invoke,callFunc,h1,h3']
 intro h;rw [h] at h2;cases h2
theorem VRel.yld_left {i:Nat} {a ca:Array Value} {v':Value} (h:VRel σ (.func (.yield i) a ca) v'):∃L,σ i=some L/\a=#[]/\ca=#[]/\v'=.func (.yield L.blk) #[] #[]:=by
 cases h with
 | atom h=>simp [AM.atom] at h
 | yld h=>exact ⟨_,h,rfl,rfl,rfl⟩
theorem Ne8 {ρ':Operand->Value} {o:Oper} {c:Call} (ho:o.op=.call c) {f:Operand} (hc:c.callee=.value f) {l:Nat} (a:ρ' f=.func (.yield l) #[] #[])
  {r:Loop} (h1:w.heap[l]? = some (.loop r)) (h2:(c.args.map ρ').size=r.params.size) :
  (execOp ρ' o).run P w=.ok (.round l r.fn (Tf r (c.args.map ρ')) r.assign r.body) w:=by
 have:=run_yield (P:=P) h1 h2
 simp [execOp,ho,resolve,hc,Deferred.ofValue,a,invoke]
 simpa [Tf] using this
theorem CM.lim_le (mp:CM) (hl:lim<=H.length):lim<=mp.lim lim H/\mp.lim lim H<=H.length:=by cases mp<;>simp [CM.lim,hl]
theorem Inv.up {Pp:Prg} {lim':Nat} (h:Inv Pp W lim σ H w) (hl:lim<=lim'):Inv Pp W lim' σ H w:=⟨h.blk,h.inj,fun i b L a ho c hL=>h.wr i b L a ho (by omega) hL,h.fresh,h.dom⟩
theorem Inv.back {Pp:Prg} {lim':Nat} {e:PK} {w':World} (a:Inv Pp W lim σ H w) (h:Inv Pp W lim' e H' w') (c:PK.le σ e) (j:Grow lim' H H'):Inv Pp W lim e H' w':=
 ⟨h.blk,h.inj,fun i b L g ho d hL=>(j.new i b g (PP ho)).elim (fun h1=>by
  obtain ⟨L0,h2,_⟩:=a.blk i b h1 (PP ho)
  have f:=c _ _ h2
  rw [hL] at f;cases f
  exact a.wr i b L h1 ho d h2) (fun h1=>h.wr i b L g ho h1.2 hL),h.fresh,h.dom⟩
theorem Nde (D:CallOk (Prg.mk P pf) C) {R:Bool} {o:Oper} {O y:AOp} (k:Naj P pureF R o=some y) (S:O=y\/∃m f as,O=.call m f as/\y=.call .any f as) (t:Inv (Prg.mk P pf) W lim σ H w) (hl:lim<=H.length) (ac:∀d,dest=some d->lim<=d) (hd:∀d,dest=some d->d<H.length/\σ d=none)
  {ρ:Operand->Value} {a:Act} (hρ:∀x,PT x=true->VRel σ (ρ x) (a.eval x)) {v:Value} (hx:Ry C lim dest O ρ H=some (v,H'))
  {K:Act->World->Prop} {Q:Exit->Act->World->Prop} (hK:∀v' w' N,ZJ (Prg.mk P pf) W lim σ dest H w v H' v' w' N->K (a.put o.dst v') w') {ro:Option Nat}:o.wpIn (WF ro) 0 P a w K Q:=by
 by_cases A:∃mp f args,O=.call mp f args
 ·obtain ⟨mp,f,args,rfl⟩:=A
  obtain ⟨Z,rfl⟩:∃Z,y=.call Z f args:=by
   rcases S with h | ⟨m',f',as',h,h'⟩
   ·exact ⟨mp,h.symm⟩
   ·cases h;exact ⟨.any,h'⟩
  have ag:∃c,o.op=.call c/\c.callee=.value f/\args=c.args.toList/\∀x∈o.op.operands,PT x=true:=by
   obtain ⟨dst,op,type,pos,after,guard⟩:=o
   unfold Naj at k
   split at k
   ·cases k
   rename_i V
   simp only [Bool.not_eq_true,Bool.not_eq_false'] at V
   have u:∀x∈op.operands,PT x=true:=fun x hx=>Nk3 (o:=⟨dst,op,type,pos,after,guard⟩) (by simpa using V) hx
   cases op<;>(try simp only at k)<;>try (cases k;done)
   case call c=>
    refine ⟨c,rfl, ?_⟩
    cases hc:c.callee with
    | value f'=>rw [hc] at k;simp at k;obtain ⟨_,rfl,rfl⟩:=k;exact ⟨rfl,rfl,u⟩
    | invoke r m=>rw [hc] at k;simp at k
    | builtin b=>
      rw [hc] at k
      exfalso
      cases b<;>(try simp only at k)<;>(try (cases k;done))<;>(repeat' (split at k))<;>first
       | (cases k;done)
       | (simp only [Nc] at k;obtain ⟨_,_,k⟩:=k;cases k;done)
       | (exfalso;simp at k;done)
       | (obtain ⟨_,_,k⟩:=NZ k;obtain ⟨_,_,k⟩:=NZ k;obtain ⟨_,_,k⟩:=NZ k;split at k<;>cases k;done)
   all_goals exfalso
   all_goals (repeat' (first | (obtain ⟨_,_,k⟩:=NZ k) | split at k))
   all_goals first
    | (cases k;done)
    | (simp only [Nc] at k;obtain ⟨_,_,k⟩:=k;cases k;done)
    | contradiction
  obtain ⟨c,ho,q,rfl,u⟩:=ag
  simp only [Ry] at hx
  split at hx
  case h_2=>cases hx
  rename_i g as n
  replace hx:=(SG hx).1
  obtain ⟨F,l⟩:=CM.lim_le mp hl
  have p:=t.up F
  generalize mp.lim lim H=lim' at hx F l p
  generalize mp.isPure=ah at hx
  have Y:∀{ρ'},o.semAt (WF ro).round ρ'=execOp ρ' o:=fun {ρ'}=>Oper.semAt_eq _ _ _ fun c' e=>by rw [ho] at e;cases e
  refine ⟨fun _ _=>trivial, ?_⟩
  rw [Y]
  have ae:PT f=true:=u f (by rw [ho];simp [Op.operands,Call.operands,q])
  have E:=hρ f ae
  have z:OJ σ (c.args.toList.map ρ) (c.args.map a.eval).toList:=by
   have:(c.args.map a.eval).toList=c.args.toList.map a.eval:=by simp
   rw [this]
   exact VF fun x hx=>hρ x (u x (by rw [ho];simp only [Op.operands,Call.operands,q];simp at hx⊢;exact .inr hx))
  unfold NC at n
  split at n
  case h_3=>cases n
  case h_2=>
   rename_i i fi ca hf
   simp only [Option.some.injEq,Prod.mk.injEq] at n
   obtain ⟨rfl,rfl⟩:=n
   rw [hf] at E
   obtain ⟨L,hL,rfl,rfl,J⟩:=E.yld_left
   simp only [Ok,Nb] at hx
   obtain ⟨r,h1,h2,h3⟩:=D.rounds _ _ _ _ _ _ _ hx l W σ w _ L p z hL
   simp only [Array.toArray_toList] at h2 h3
   rw [Ne8 (P:=P) ho q J h1 h2,Oper.uponIn_round]
   refine ⟨Mq,Ndu (h3.mono fun en w' hp=>?_)⟩
   obtain ⟨v',N,rfl,q1,q2,q3,M,q5⟩:=hp
   exact hK v' w' N ⟨q1,t.back q2 M (D.grow _ _ _ _ _ _ _ hx l),q3,M,fun j T=>.inr (q5 j T),D.len _ _ _ _ _ _ _ hx l,(D.grow _ _ _ _ _ _ _ hx l).weaken F⟩
  rename_i g' fi ca hf
  simp only [Option.some.injEq,Prod.mk.injEq] at n
  obtain ⟨rfl,rfl⟩:=n
  rw [hf] at E
  obtain ⟨I,G,J,ad,aa⟩:=E.func_left
  obtain ⟨fn,h1,h2,h3⟩:=D.fn _ _ _ _ _ _ _ hx
  have X:=Ne9 (P:=P) (w:=w) ho q J h1 h2 h3
  have s:=D.calls _ _ _ _ _ _ _ hx l W σ w (I.toList++(c.args.map a.eval).toList++G.toList) p ((ad.append z).append aa)
  have e:(I.toList++(c.args.map a.eval).toList++G.toList).toArray=I++c.args.map a.eval++G:=by
   apply Array.ext';simp
  rw [e] at s
  rw [X,Oper.uponIn_enter]
  refine ⟨Mq,Ne6 (s.mono fun en w' hp=>?_)⟩
  obtain ⟨v',N,rfl,q1,q2,q3,M,q5⟩:=hp
  exact hK v' w' N ⟨q1,t.back q2 M (D.grow _ _ _ _ _ _ _ hx l),q3,M,fun j T=>.inr (q5 j T),D.len _ _ _ _ _ _ _ hx l,(D.grow _ _ _ _ _ _ _ hx l).weaken F⟩
 ·have U:∀mp f args,O≠.call mp f args:=fun mp f args e=>A ⟨mp,f,args,e⟩
  obtain rfl:O=y:=by
   rcases S with h | ⟨m',f',as',h,_⟩
   ·exact h
   ·exact absurd h (U _ _ _)
  rw [OQ U] at hx
  obtain ⟨nx,w',N,v',hr,hn,q1,q2,q3,M,q5,q6,q7⟩:=Nvt k t hρ hd hx
  have B:ZJ (Prg.mk P pf) W lim σ dest H w v H' v' w' N:=⟨q1,q2,q3,M,fun j T=>(q5 j T).imp id (·.2),q6,Nfm hx ac hl⟩
  have ab:∀c,o.op≠.defer c:=fun c e=>by
   obtain ⟨dst,op,type,pos,after,guard⟩:=o
   simp only at e
   subst e
   unfold Naj at k
   split at k<;>simp at k
  refine ⟨fun _ _=>trivial, ?_⟩
  rw [Oper.semAt_eq _ _ _ ab,hr]
  cases nx<;>simp [Nii] at hn
  ·subst hn;rw [Oper.uponIn_value];exact hK _ _ _ B
  ·subst hn;rw [Oper.uponIn_skip];exact hK _ _ _ B
theorem Nsk (h:CallOk (Prg.mk P pf) C) {b:Bool} {o:Oper} {g:AOp} (f:Naj P pureF b o=some g) (c:Inv (Prg.mk P pf) W lim σ H w) (hl:lim<=H.length) (e:∀d,dest=some d->lim<=d) (hd:∀d,dest=some d->d<H.length/\σ d=none)
  {ρ:Operand->Value} {a:Act} (k:∀x,PT x=true->VRel σ (ρ x) (a.eval x)) {v:Value} (j:Ry C lim dest g ρ H=some (v,H'))
  {K:Act->World->Prop} {Q:Exit->Act->World->Prop} (i:∀v' w' l,ZJ (Prg.mk P pf) W lim σ dest H w v H' v' w' l->K (a.put o.dst v') w') {ro:Option Nat}:o.wpIn (WF ro) 0 P a w K Q:=
 Nde h f (.inl rfl) c hl e hd k j i
end
section
variable {P:Program} {pf pureF:FuncId->Bool} {C:TP} {W:Nat->Prop} {lim:Nat} {σ:PK} {H H':NE} {w:World} {dest:Option Nat} {ds:List Deferred} {ro:Option Nat}
theorem Inv.mask (base:Nat):∀(l:List Nat) {H:NE},Inv (Prg.mk P pf) W lim σ H w->Inv (Prg.mk P pf) W lim σ (OD base l H) w
 | [],_,h=>h
 | i::l,H,h=>by
   simp only [OD,Oi]
   exact Inv.mask base l (h.killAny (base+i))
theorem Nlj (c:Inv (Prg.mk P pf) W lim σ H w) (base:Nat) (l:List Nat) (M:∀i∈l,∀b,H[base+i]? = some b->alive b=true->owned b=true) (K:lim<=base) :
  ∃J:Nat->Prop,Inv (Prg.mk P pf) J lim σ (OD base l H) w/\∀v g v' w' E,ZJ (Prg.mk P pf) J lim σ dest (OD base l H) w v g v' w' E->ZJ (Prg.mk P pf) W lim σ dest H w v (NY base l H g) v' w' E:=by
 refine ⟨fun b=>W b/\∀i∈l,∀bl L,H[base+i]? = some bl->alive bl=true->σ (base+i)=some L->L.blk≠b, ?_, ?_⟩
 ·have hm:=c.mask base l
  have get:∀(j:Nat) b,(OD base l H)[j]? = some b->alive b=true->H[j]? = some b/\∀i∈l,base+i≠j:=fun j b a o=>by
   by_cases f:∃i∈l,base+i=j
   ·have z:j<H.length:=by
     have:=(List.getElem?_eq_some_iff.1 a).1
     rw [OX] at this;exact this
    rw [UV base l H f z] at a
    cases a;simp [alive] at o
   ·have n:∀i∈l,base+i≠j:=fun i hi e=>f ⟨i,hi,e⟩
    rw [QP base l H n] at a
    exact ⟨a,n⟩
  refine ⟨hm.blk,hm.inj,fun i b L a ho hl hL=>⟨hm.wr i b L a ho hl hL,fun k hk bl I x r u e=>?_⟩,fun b a=>⟨hm.fresh b a,fun k hk bl I x r u e=>?_⟩,hm.dom⟩
  ·obtain ⟨h1,h2⟩:=get i b a (PP ho)
   exact c.inj i (base+k) b bl L I h1 x (fun e=>h2 k hk e.symm) ho r hL u e.symm
  ·obtain ⟨S,h1,h2⟩:=c.blk (base+k) bl x r
   rw [u] at h1;cases h1
   have:=h2.lt r
   omega
 ·rintro v g v' w' E ⟨q1,q2,q3,G,N,O,Q⟩
  rw [OX] at N O
  have D:Stp W w w':=⟨q3.os,q3.tape,q3.output,q3.size,fun b a=>q3.block b fun h=>a h.1⟩
  have same:∀i L,σ i=some L->E i=some L:=G
  have get:∀(j:Nat) b,(NY base l H g)[j]? = some b->alive b=true->(H[j]? = some b/\∃i∈l,base+i=j)\/(g[j]? = some b/\∀i∈l,base+i≠j):=fun j b a o=>by
   by_cases f:∃i∈l,base+i=j
   ·have z:j<g.length:=by
     have:=(List.getElem?_eq_some_iff.1 a).1
     rw [PH] at this;exact this
    rw [RV base H l g f z] at a
    simp only [Option.some.injEq] at a
    exact .inl ⟨RD a o,f⟩
   ·have n:∀i∈l,base+i≠j:=fun i hi e=>f ⟨i,hi,e⟩
    rw [Rx base H l g n] at a
    exact .inr ⟨a,n⟩
  have old:∀(j:Nat) b,g[j]? = some b->alive b=true->(∀i∈l,base+i≠j)->H[j]? = some b\/(owned b=true/\lim<=j):=fun j b a o f=>by
   rcases Q j b a o with h | h
   ·rw [QP base l H f] at h;exact .inl h
   ·exact .inr h
  have q:∀(j:Nat) b Lj,H[j]? = some b->alive b=true->E j=some Lj->σ j=some Lj:=fun j b Lj a o f=>by
   obtain ⟨L,h1,_⟩:=c.blk j b a o
   have:=same _ _ h1
   rw [this] at f;cases f;exact h1
  refine ⟨q1,⟨fun j b a o=>?_,fun i j bi bj Li Lj F A s m d hi f=>?_,fun i b L a ho C hL=>?_,fun b a=>(q2.fresh b a).1,fun j f=>q2.dom j (by rw [PH] at f;exact f)⟩,D,G,N,by rw [PH];exact O,⟨fun j b a o=>?_,fun j f=>by
   have n:∀i∈l,base+i≠j:=fun i hi e=>by omega
   rw [Rx base H l g n,Q.keep j f,QP base l H n]⟩⟩
  ·rcases get j b a o with ⟨h1,h2⟩ | ⟨h1,h2⟩
   ·obtain ⟨L,p,t⟩:=c.blk j b h1 o
    refine ⟨L,same _ _ p,t.mono G fun _=>q3.block _ fun R=>?_⟩
    obtain ⟨k,hk,rfl⟩:=h2
    exact R.2 k hk b L h1 o p rfl
   ·exact q2.blk j b h1 o
  ·rcases get i bi F (PP m) with ⟨h1,h2⟩ | ⟨h1,h2⟩
   ·have y:=q i bi Li h1 (PP m) hi
    rcases get j bj A d with ⟨p,t⟩ | ⟨p,t⟩
    ·exact c.inj i j bi bj Li Lj h1 p s m d y (q j bj Lj p d f)
    ·rcases old j bj p d t with h | h
     ·exact c.inj i j bi bj Li Lj h1 h s m d y (q j bj Lj h d f)
     ·have:=q2.wr j bj Lj p h.1 h.2 f
      obtain ⟨k,hk,rfl⟩:=h2
      exact this.2 k hk bi Li h1 (PP m) y
   ·rcases get j bj A d with ⟨p,t⟩ | ⟨p,t⟩
    ·have B:=q j bj Lj p d f
     rcases old i bi h1 (PP m) h2 with h | h
     ·exact c.inj i j bi bj Li Lj h p s m d (q i bi Li h (PP m) hi) B
     ·have:=q2.wr i bi Li h1 h.1 h.2 hi
      obtain ⟨k,hk,rfl⟩:=t
      exact fun e=>this.2 k hk bj Lj p d B e.symm
    ·exact q2.inj i j bi bj Li Lj h1 p s m d hi f
  ·rcases get i b a (PP ho) with ⟨h1,h2⟩ | ⟨h1,h2⟩
   ·exact c.wr i b L h1 ho C (q i b L h1 (PP ho) hL)
   ·exact (q2.wr i b L h1 ho C hL).1
  ·rcases get j b a o with ⟨h1,h2⟩ | ⟨h1,h2⟩
   ·exact .inl h1
   ·exact old j b h1 o h2
structure FrRel (ds:List Deferred) (σ:PK) (N:Nat) (fr:Nat->Value) (a:Act):Prop where
 size:N<=a.tmps.size
 defers:a.defers=ds
 val:∀t,VRel σ (fr t) (a.tmps.getD t undef)
theorem FrRel.mono {σ τ:PK} {N:Nat} {fr:Nat->Value} {a:Act} (h:FrRel ds σ N fr a) (b:PK.le σ τ):FrRel ds τ N fr a:=⟨h.size,h.defers,fun t=>(h.val t).mono b⟩
theorem FrRel.ev {σ:PK} {N:Nat} {fr:Nat->Value} {a:Act} (h:FrRel ds σ N fr a) {x:Operand} (b:PT x=true):VRel σ (ev fr x) (a.eval x):=by
 cases x with
 | tmp t=>exact h.val t
 | const v=>
   have c:atom v=true:=by simpa [PT] using b
   exact .atom c
 | func f=>exact .atom rfl
 | global g=>simp [PT] at b
theorem FrRel.put {σ:PK} {N:Nat} {fr fr':Nat->Value} {a:Act} (h:FrRel ds σ N fr a) {dst:Option Nat} {v v':Value} (b:VRel σ v v') (hp:Yz N fr dst v=some fr'):FrRel ds σ N fr' (a.put dst v'):=by
 cases dst with
 | none=>cases hp;exact h
 | some d=>
   simp only [Yz] at hp
   split at hp
   case isFalse=>cases hp
   rename_i hd
   cases hp
   refine ⟨by simpa [Act.put] using h.size,h.defers,fun t=>?_⟩
   simp only [Act.put,upd,N1]
   by_cases e:t=d
   ·subst e
    have:t<a.tmps.size:=by have:=h.size;omega
    rw [Ni rfl,Array.getElem?_setIfInBounds_self_of_lt this]
    exact b
   ·rw [Nh e,Pr (fun h=>e h.symm),<-N1]
    exact h.val t
theorem FrRel.wanted {σ:PK} {N:Nat} {fr:Nat->Value} {a:Act} (h:FrRel ds σ N fr a) {ops:Array Oper} {o:Oper} {g:Option (Nat×Bool)} (i:Mt ops o.guard=some g) {b:Bool} (k:RG N fr g=some b) :
  Region.wanted o (yielded ops a.tmps)=b:=by
 unfold Mt at i
 cases ho:o.guard with
 | none=>
   rw [ho] at i;simp at i;subst i
   simp [RG] at k;subst k
   simp [Region.wanted,ho]
 | some p=>
   obtain ⟨j,c⟩:=p
   rw [ho] at i
   simp only at i
   split at i
   case h_2=>cases i
   rename_i t q
   simp only [Option.some.injEq] at i;subst i
   simp only [RG] at k
   split at k
   case isFalse=>cases k
   rename_i n
   have m:t<a.tmps.size:=Nat.lt_of_lt_of_le n h.size
   have f:=h.val t
   rw [N1,N9 m] at f
   simp only [Pa] at f
   have r:yielded ops a.tmps j=match a.tmps[t] with | .bool b=>some b | _=>none:=by
    unfold yielded
    rw [q]
    simp only [Option.bind_some,N9 m]
    cases a.tmps[t]<;>rfl
   simp only [Region.wanted,ho,r]
   split at k
   ·rename_i d hd
    rw [hd] at f
    rw [f.bool_left]
    simp only [Option.some.injEq] at k
    rw [<-k]
    simp
   ·rename_i l
    simp only [Option.some.injEq] at k
    rw [<-k]
    have:∀d,a.tmps[t]≠.bool d:=fun d e=>by
     rw [e] at f
     generalize fr t=x at f l
     cases f
     exact l d rfl
    cases hx:a.tmps[t]<;>first | (exact absurd hx (this _)) | simp
structure State (Pp:Prg) (ds:List Deferred) (W:Nat->Prop) (lim:Nat) (σ:PK) (N:Nat) (fr:Nat->Value) (H:NE) (a:Act) (w:World):Prop where
 fr:FrRel ds σ N fr a
 inv:Inv Pp W lim σ H w
 lim:lim<=H.length
structure Kept (σ:PK) (H:NE) (base n:Nat) (todo:List Nat):Prop where
 len:base+n<=H.length
 own:∀r,r<n->∀b,H[base+r]? = some b->alive b=true->owned b=true
 free:∀r∈todo,σ (base+r)=none
 lt:∀r∈todo,r<n
theorem Ndf {C:TP} {o:AOp} {lim:Nat} {dest:Option Nat} {ρ:Operand->Value} {H:NE} {r} (h:Ry C lim dest o ρ H=some r):Ry C lim dest (Zy o) ρ H=some r:=by
 by_cases hc:∃mp f args,o=.call mp f args
 ·obtain ⟨mp,f,args,rfl⟩:=hc;exact h
 ·have a:∀mp f args,o≠.call mp f args:=fun mp f args e=>hc ⟨mp,f,args,e⟩
  rw [OQ a] at h
  have b:∀mp f args,Zy o≠.call mp f args:=fun mp f args e=>by
   cases o<;>simp only [Zy] at e<;>first | (cases e;done) | (exact a _ _ _ e) | (split at e<;>first | (cases e;done) | (rename_i c;cases c;done) | (exact a _ _ _ e))
  rw [OQ b]
  exact WJ h
theorem N4a (hC:CallOk (Prg.mk P pf) C) {ops:Array Oper} {j:Nat} {o:Oper} (D:ops[j]? = some o) {i0:AIns} (l:Nq0 P pureF true ops o=some i0) {i:AIns} (hi:i.dst=i0.dst/\i.guard=i0.guard/\(i.op=i0.op\/Zy i.op=i0.op\/∃m f as,i.op=.call m f as/\i0.op=.call .any f as)) (S:Yk i0.op=false)
  {N base n:Nat} {fr fr':Nat->Value} {a:Act} (hs:State (Prg.mk P pf) ds W lim σ N fr H a w) (L:lim<=base) {todo:List Nat} (hk:Kept σ H base n todo) (B:∀r,i.made=some r->r∈todo/\r<n) (s:∀r∈i.mask,r<n)
  (k:TA C N lim (some base) i fr H=some (fr',H')) {K:Act->World->Prop} {Q:Exit->Act->World->Prop}
  (V:∀u a' w',State (Prg.mk P pf) ds W lim u N fr' H' a' w'->Stp W w w'->PK.le σ u->Grow lim H H'->Kept u H' base n (todo.filter fun r=>i.made≠some r)->(∀j,u j≠σ j->(∃r,i.made=some r/\j=base+r)\/H.length<=j)->H.length<=H'.length->K a' w'):wpOpIn (WF ro) 0 P ops Q j K a w:=by
 obtain ⟨y,G,l⟩:=NZ l
 obtain ⟨g,hg,l⟩:=NZ l
 cases l
 obtain ⟨e1,e2,e3⟩:=hi
 simp only at e1 e2 e3
 unfold wpOpIn
 rw [D]
 simp only
 unfold TA at k
 rw [Sq,e2,e1] at k
 cases hw:RG N fr g with
 | none=>rw [hw] at k;cases k
 | some b=>
 rw [hs.fr.wanted hg hw]
 rw [hw] at k
 cases b with
 | false=>
   simp only [Nx,if_false]
   simp only [Nc,Prod.mk.injEq] at k
   obtain ⟨f,J,rfl,rfl⟩:=k
   exact ⟨fun _ _=>trivial,V σ _ w ⟨hs.fr.put (.atom rfl) J,hs.inv,hs.lim⟩ (Stp.refl _ _) (PK.le_refl _) (Grow.refl _ _) ⟨hk.len,hk.own,fun r hr=>hk.free r (O0.1 hr).1,fun r hr=>hk.lt r (O0.1 hr).1⟩ (fun j D=>absurd rfl D) (Nd _)⟩
 | true=>
   simp only [if_true]
   simp only [PM] at k
   split at k
   case h_2=>cases k
   rename_i v H1 F
   split at F
   case h_2=>cases F
   rename_i v1 Hm c
   simp only [Option.some.injEq,Prod.mk.injEq] at F
   obtain ⟨rfl,rfl⟩:=F
   simp only [Nc,Prod.mk.injEq] at k
   obtain ⟨f,J,rfl,rfl⟩:=k
   obtain ⟨p,c,q⟩:∃p,Ry C lim (i.made.map (base+·)) p (ev fr) (OD base i.mask H)=some (v1,Hm)/\(p=y\/∃m f as,p=.call m f as/\y=.call .any f as):=by
    cases hS:Yk i.op with
    | false=>
      have t:i.made=i.dest:=by simp [AIns.made,hS]
      rw [t]
      rcases e3 with e3 | e3 | ⟨X,U,as',e3,T⟩
      ·exact ⟨y,by rw [e3] at c;exact c,.inl rfl⟩
      ·exact ⟨y,by rw [<-e3];exact Ndf c,.inl rfl⟩
      ·exact ⟨_,c,.inr ⟨X,U,as',e3,T⟩⟩
    | true=>
      have t:i.made=none:=by simp [AIns.made,hS]
      rw [t]
      rcases e3 with e3 | e3 | ⟨X,U,as',e3,T⟩
      ·rw [e3,S] at hS;cases hS
      ·refine ⟨y, ?_,.inl rfl⟩
       have h2:=Ndf c
       rw [e3] at h2
       generalize ac:i.op=io at hS e3
       cases io<;>simp [Yk] at hS
       simp only [Zy] at e3
       subst e3
       exact h2
      ·rw [e3] at hS;simp [Yk] at hS
   have hd:∀d,i.made.map (base+·)=some d->∃r,i.made=some r/\d=base+r/\r∈todo/\r<n:=fun d e=>by
    simp only [Nc] at e
    obtain ⟨r,hr,rfl⟩:=e
    exact ⟨r,hr,rfl,B r hr⟩
   obtain ⟨Wm,M,O⟩:=Nlj (dest:=i.made.map (base+·)) hs.inv base i.mask (fun r hr b I E=>hk.own r (s r hr) b I E) L
   refine Nde hC G q M (by rw [OX];exact hs.lim) (fun d e=>by obtain ⟨r,_,rfl,_⟩:=hd d e;omega)
    (fun d e=>by
     obtain ⟨r,_,rfl,h1,h2⟩:=hd d e
     rw [OX]
     exact ⟨by have:=hk.len;omega,hk.free r h1⟩) (fun x k=>hs.fr.ev k) c fun v' w' u hn=>?_
   obtain ⟨q1,q2,q3,Y,q5,q6,Z⟩:=O _ _ _ _ _ hn
   have z:∀j,u j≠σ j->(∃r,i.made=some r/\j=base+r)\/H.length<=j:=fun j D=>by
    rcases q5 j D with h | h
    ·obtain ⟨r,h1,h2,_⟩:=hd j h
     exact .inl ⟨r,h1,h2⟩
    ·exact .inr h
   refine V u _ w' ⟨(hs.fr.mono Y).put q1 J,q2,by have:=hs.lim;omega⟩ q3 Y Z ⟨by have:=hk.len;omega,fun r hr b I E=>?_,fun r hr=>?_,fun r hr=>hk.lt r (O0.1 hr).1⟩ z q6
   ·rcases Z _ b I E with h | h
    ·exact hk.own r hr b h E
    ·exact h.1
   ·obtain ⟨h1,h2⟩:=O0.1 hr
    have R:i.made≠some r:=by simpa using h2
    apply Oe
    intro hc
    have A:=z (base+r) (fun e=>hc (by rw [e];exact hk.free r h1))
    rcases A with ⟨r',h3,h4⟩ | h3
    ·have:r'=r:=by omega
     subst this;exact R h3
    ·have aa:=hk.lt r h1;have ab:=hk.len;omega
end
theorem MG {α β:Type} {f:α->Option β}:∀{l:List α} {r:List β},l.mapM f=some r->r.length=l.length/\∀(j:Nat) x y,l[j]? = some x->r[j]? = some y->f x=some y
 | [],r,h=>by simp at h;subst h;exact ⟨rfl,fun j x y c=>by simp at c⟩
 | a::l,r,h=>by
   rw [List.mapM_cons] at h
   obtain ⟨b,g,h⟩:=NZ h
   obtain ⟨i,d,h⟩:=NZ h
   cases h
   obtain ⟨h1,h2⟩:=MG d
   refine ⟨by simp [h1],fun j x y c e=>?_⟩
   cases j with
   | zero=>simp at c e;subst c e;exact g
   | succ j=>exact h2 j x y (by simpa using c) (by simpa using e)
section
variable {P:Program} {pf pureF:FuncId->Bool} {C:TP} {W:Nat->Prop} {lim:Nat} {σ:PK} {H H':NE} {w:World} {ds:List Deferred} {ro:Option Nat}
def N47 (Pp:Prg) (ds:List Deferred) (W:Nat->Prop) (lim:Nat) (σ:PK) (N:Nat) (fr':Nat->Value) (H H':NE) (w:World):Exit->Act->World->Prop:=fun e a' w'=>
 e=.normal/\∃a,State Pp ds W lim a N fr' H' a' w'/\Stp W w w'/\PK.le σ a/\Grow lim H H'/\(∀j,a j≠σ j->H.length<=j)/\H.length<=H'.length
theorem Mr {ops:Array Oper} {listed:Array Bool} (b:∀(i:Nat) o,ops[i]? = some o->listed.getD i false=true->∀e∈o.after.toList,Region.binds .any e=true->listed.getD e.on false=true) :
  ∀(n x a:Nat),listed.getD x false=true->waits ops n x a=true->listed.getD a false=true
 | 0,x,a,_,h=>by simp [waits] at h
 | n+1,x,a,hx,h=>by
   unfold waits at h
   split at h
   ·rename_i o ho
    obtain ⟨e,he,h2⟩:=List.any_eq_true.1 h
    simp only [Ny,Bool.or_eq_true,beq_iff_eq] at h2
    have c:=b x o ho hx e he h2.1
    rcases h2.2 with h3 | h3
    ·rw [<-h3];exact c
    ·exact Mr b n e.on a c h3
   ·cases h
theorem Nd3 {ops:Array Oper}:∀(l b:List Nat),Nq9 ops b l=true->∀A i B,l=A++i::B->∀o,ops[i]? = some o->∀e∈o.after.toList,Region.binds .any e=true->e.on∈b++A
 | [],b,_,A,i,B,h=>by simp at h
 | x::l,b,hk,A,i,B,h=>by
   intro o ho e he c
   simp only [Nq9,Ny] at hk
   cases A with
   | nil=>
     simp only [Ok,List.cons.injEq] at h
     obtain ⟨rfl,rfl⟩:=h
     have h1:=hk.1
     rw [ho] at h1
     have:=N5.1 h1 e he
     rw [c] at this
     simpa using this
   | cons a A=>
     simp only [Ox,List.cons.injEq] at h
     obtain ⟨rfl,h⟩:=h
     have:=Nd3 l (b++[x]) hk.2 A i B h o ho e he c
     simpa using this
theorem M9 {ops:Array Oper} {L:List AIns}:∀(l b:List Nat),Ncq ops L b l=true->∀A i B,l=A++i::B->∀j∈b++A,Noe ops L i j=true
 | [],b,_,A,i,B,h=>by simp at h
 | x::l,b,hk,A,i,B,h=>by
   intro j c
   simp only [Ncq,Ny] at hk
   cases A with
   | nil=>
     simp only [Ok,List.cons.injEq] at h
     obtain ⟨rfl,rfl⟩:=h
     exact N5.1 hk.1 j (by simpa using c)
   | cons a A=>
     simp only [Ox,List.cons.injEq] at h
     obtain ⟨rfl,h⟩:=h
     exact M9 l (b++[x]) hk.2 A i B h j (by simpa using c)
theorem Nbu:∀{l:List Nat},nodupB l=true->l.Nodup
 | [],_=>List.nodup_nil
 | x::l,h=>by
   simp only [nodupB,Ny,Bool.not_eq_true',List.contains_eq_mem,decide_eq_false_iff_not] at h
   exact List.nodup_cons.2 ⟨h.1,Nbu h.2⟩
theorem Nbk {ops:Array Oper} {ord:List Nat} (c:∀A i B,ord=A++i::B->∀o,ops[i]? = some o->∀e∈o.after.toList,Region.binds .any e=true->e.on∈A) :
  ∀(n x a:Nat),waits ops n x a=true->∀A B,ord=A++x::B->a∈A
 | 0,x,a,h=>by simp [waits] at h
 | n+1,x,a,h=>by
   intro A B b
   unfold waits at h
   split at h
   ·rename_i o ho
    obtain ⟨e,he,h2⟩:=List.any_eq_true.1 h
    simp only [Ny,Bool.or_eq_true,beq_iff_eq] at h2
    have hm:=c A x B b o ho e he h2.1
    rcases h2.2 with h3 | h3
    ·rw [<-h3];exact hm
    ·obtain ⟨d,f,rfl⟩:=List.append_of_mem hm
     have:=Nbk c n e.on a h3 d (f++x::B) (by rw [b];simp)
     exact Oq _ this
   ·cases h
theorem Nau {ops:Array Oper} {listed:Array Bool} {i:Nat}:i∈Region.ready .any ops listed↔i<ops.size/\listed.getD i true=false/\∀o,ops[i]? = some o->∀e∈o.after.toList,Region.binds .any e=true->listed.getD e.on false=true:=by
 unfold Region.ready
 rw [O0]
 simp only [List.mem_range,Ny,Bool.not_eq_true']
 constructor
 ·rintro ⟨h1,h2,a⟩
  refine ⟨h1,h2,fun o ho e he b=>?_⟩
  rw [ho] at a
  simp only [Nv,Pa] at a
  rw [<-Array.all_toList] at a
  have:=N5.1 a e he
  simpa [b] using this
 ·rintro ⟨h1,h2,a⟩
  refine ⟨h1,h2, ?_⟩
  have ho:ops[i]? = some ops[i]:=N9 h1
  rw [ho]
  simp only [Nv,Pa]
  rw [<-Array.all_toList]
  refine N5.2 fun e he=>?_
  cases b:Region.binds .any e with
  | false=>simp
  | true=>simpa using a _ ho e he b
theorem M6:∀(l:List AOp) (n j:Nat),(QI.go n l).length=l.length/\(∀o r,l[j]? = some o->(QI.go n l)[j]? = some r->(makes o=true->∃k,r=some k/\n<=k/\k<n+((QI.go n l).filterMap id).length)/\(makes o=false->r=none))
 | [],n,j=>⟨rfl,fun o r h=>by simp at h⟩
 | o::l,n,j=>by
   unfold QI.go
   cases hm:makes o with
   | true=>
     simp only [if_true]
     obtain ⟨h1,h2⟩:=M6 l (n+1) (j-1)
     refine ⟨by simp [h1],fun c r ho hr=>?_⟩
     cases j with
     | zero=>simp at ho hr;subst ho hr;exact ⟨fun _=>⟨n,rfl,Nd _,(by simp)⟩,(fun h=>by rw [hm] at h;cases h)⟩
     | succ j=>
       obtain ⟨a,b⟩:=h2 c r (by simpa using ho) (by simpa using hr)
       refine ⟨fun h=>?_,b⟩
       obtain ⟨k,k1,k2,k3⟩:=a h
       refine ⟨k,k1,by omega, ?_⟩
       simp only [List.filterMap_cons,id,Nl]
       omega
   | false=>
     simp only [Nx,if_false]
     obtain ⟨h1,h2⟩:=M6 l n (j-1)
     refine ⟨by simp [h1],fun c r ho hr=>?_⟩
     cases j with
     | zero=>simp at ho hr;subst ho hr;exact ⟨(fun h=>by rw [hm] at h;cases h),fun _=>rfl⟩
     | succ j=>
       obtain ⟨a,b⟩:=h2 c r (by simpa using ho) (by simpa using hr)
       refine ⟨fun h=>?_,b⟩
       obtain ⟨k,k1,k2,k3⟩:=a h
       exact ⟨k,k1,k2,by simpa using k3⟩
theorem Xh:∀(l:List AOp) (n i j k:Nat),(QI.go n l)[i]? = some (some k)->(QI.go n l)[j]? = some (some k)->i=j/\n<=k
 | [],n,i,j,k,h,_=>by simp [QI.go] at h
 | o::l,n,i,j,k,hi,hj=>by
   unfold QI.go at hi hj
   cases hm:makes o with
   | true=>
     rw [hm] at hi hj
     simp only [if_true] at hi hj
     cases i with
     | zero=>
       cases j with
       | zero=>simp at hi;exact ⟨rfl,by omega⟩
       | succ j=>
         simp at hi hj
         have:=(Xh l (n+1) j j k hj hj).2
         omega
     | succ i=>
       cases j with
       | zero=>
         simp at hi hj
         have:=(Xh l (n+1) i i k hi hi).2
         omega
       | succ j=>
         simp at hi hj
         have:=Xh l (n+1) i j k hi hj
         omega
   | false=>
     rw [hm] at hi hj
     simp only [Nx,if_false] at hi hj
     cases i with
     | zero=>simp at hi
     | succ i=>
       cases j with
       | zero=>simp at hj
       | succ j=>
         simp at hi hj
         have:=Xh l n i j k hi hj
         omega
structure Plan (P:Program) (pureF:FuncId->Bool) (ops:Array Oper) (n:Nat) (ord:List Nat) (L:List AIns):Prop where
 len:L.length=ops.size
 mem:∀i,i∈ord↔i<ops.size
 nodup:ord.Nodup
 back:∀A i B,ord=A++i::B->∀o,ops[i]? = some o->∀e∈o.after.toList,Region.binds .any e=true->e.on∈A
 ins:∀(j:Nat) o i,ops[j]? = some o->L[j]? = some i->∃i0,Nq0 P pureF true ops o=some i0/\i.dst=i0.dst/\i.guard=i0.guard/\(i.op=i0.op\/Zy i.op=i0.op\/∃m f as,i.op=.call m f as/\i0.op=.call .any f as)/\Yk i0.op=false
 planned:∀(j:Nat) i,L[j]? = some i->Planned i
 sep:∀A i B,ord=A++i::B->∀j∈A,∀x y,L[j]? = some x->L[i]? = some y->waits ops ops.size i j=false->Sep x y
 dest:∀(j:Nat) i r,L[j]? = some i->i.dest=some r->r<n
 mask:∀(j:Nat) i r,L[j]? = some i->r∈i.mask->r<n
 inj:∀(i j:Nat) x y r,L[i]? = some x->L[j]? = some y->x.made=some r->y.made=some r->i=j
theorem Nw8 (i:AIns):(toL i).dst=i.dst/\(toL i).guard=i.guard/\((toL i).op=i.op\/Zy (toL i).op=i.op/\∃e b s x y,i.op=.append e b s x y/\∀f as,(toL i).op≠.call .any f as):=by
 unfold toL
 split
 ·rename_i h;exact ⟨rfl,rfl,.inr ⟨by rw [h];rfl,_,_,_,_,_,h,fun f as e=>by cases e⟩⟩
 ·exact ⟨rfl,rfl,.inl rfl⟩
theorem Npq (a:List AIns) (x:AIns):(fresh a x).dst=x.dst/\(fresh a x).guard=x.guard/\((fresh a x).op=x.op\/Zy (fresh a x).op=x.op/\∃e b s y z,(fresh a x).op=.append0 e b s y z):=by
 unfold fresh
 split
 ·rename_i c
  split
  ·exact ⟨rfl,rfl,.inr ⟨by simp only [c,Zy],_,_,_,_,_,rfl⟩⟩
  ·exact ⟨rfl,rfl,.inl rfl⟩
 ·exact ⟨rfl,rfl,.inl rfl⟩
theorem Nn9 (st:Bool) (c:List AIns) (x:AIns):(Y0 st c x).dst=x.dst/\(Y0 st c x).guard=x.guard/\((Y0 st c x).op=x.op\/Zy (Y0 st c x).op=x.op/\((∃e b s y z,(Y0 st c x).op=.append0 e b s y z)\/∃n a z,(Y0 st c x).op=.storeD n a z)):=by
 obtain ⟨f1,f2,f3⟩:=Npq c x
 unfold Y0
 split
 ·unfold toS
  split
  ·rename_i n t z d
   split
   ·refine ⟨f1,f2,.inr ⟨?_,.inr ⟨_,_,_,rfl⟩⟩⟩
    rcases f3 with f3 | ⟨_,_,_,_,_,_,f4⟩
    ·rw [<-f3,d];rfl
    ·rw [d] at f4;cases f4
   ·exact ⟨f1,f2,f3.imp id fun h=>⟨h.1,.inl h.2⟩⟩
  ·exact ⟨f1,f2,f3.imp id fun h=>⟨h.1,.inl h.2⟩⟩
 ·exact ⟨f1,f2,f3.imp id fun h=>⟨h.1,.inl h.2⟩⟩
theorem UH (l:List AIns) (a:List (Option Nat)) (i:AIns):(Ndn l a i).dst=i.dst/\(Ndn l a i).guard=i.guard/\(Ndn l a i).op=i.op/\(Ndn l a i).mask=i.mask:=by
 unfold Ndn
 split<;>exact ⟨rfl,rfl,rfl,rfl⟩
theorem XF {l:List AIns} {a:List (Option Nat)} {i:AIns} (h:Yk i.op=false):Ndn l a i=i:=by
 unfold Ndn
 rw [h];rfl
theorem Zc {ops:Array Oper} {L:List AIns} (h:N8v ops L=true) {i j:Nat} {x y:AIns} (c:L[i]? = some x) (d:L[j]? = some y) (b:i≠j) (g:waits ops ops.size i j=false) (k:waits ops ops.size j i=false) (hs:Yk x.op=true) {r:Nat} (hr:x.dest=some r) :
  y.dest≠some r/\(r∈y.mask\/kind y.op=.p\/kind y.op=.a\/kind y.op=.s):=by
 have hi:=(List.getElem?_eq_some_iff.1 c).1
 have f:=(List.getElem?_eq_some_iff.1 d).1
 have:=N5.1 h i (List.mem_range.2 hi)
 rw [c] at this
 simp only [hs,Q9,Bool.false_or] at this
 replace this:=N5.1 this j (List.mem_range.2 f)
 rw [d,g,k] at this
 simp only [hr] at this
 have e:(i == j)=false:=by simpa using b
 rw [e] at this
 simp at this
 obtain ⟨h1,h2⟩:=this
 refine ⟨h1, ?_⟩
 rcases h2 with ((h2 | h2) | h2) | h2
 ·exact .inl h2
 ·exact .inr (.inl h2)
 ·exact .inr (.inr (.inl h2))
 ·exact .inr (.inr (.inr h2))
theorem Nb5 {L:List AIns} {n:Nat} (h:N0d L n=true) {j:Nat} {x:AIns} (a:L[j]? = some x) (hs:Yk x.op=true):∃r,x.dest=some r/\r<n:=by
 have:=N5.1 h x (Od a)
 rw [hs] at this
 simp only [Q9,Bool.false_or] at this
 split at this
 ·rename_i r hr;exact ⟨r,hr,by simpa using this⟩
 ·cases this
theorem Nsh (i:AIns):(Nnk P i).dst=i.dst/\(Nnk P i).guard=i.guard/\((Nnk P i).op=i.op\/∃m f as,(Nnk P i).op=.call m f as/\i.op=.call .any f as):=by
 unfold Nnk
 split
 ·rename_i h
  split
  ·exact ⟨rfl,rfl,.inr ⟨_,_,_,rfl,h⟩⟩
  ·exact ⟨rfl,rfl,.inr ⟨_,_,_,rfl,h⟩⟩
 ·rename_i h;exact ⟨rfl,rfl,.inr ⟨_,_,_,rfl,h⟩⟩
 ·exact ⟨rfl,rfl,.inl rfl⟩
theorem Nsg {ops:Array Oper} {l:List AIns} {k:Nat} (i:AIns):(Njz ops l k i).dst=i.dst/\(Njz ops l k i).guard=i.guard/\((Njz ops l k i).op=i.op\/(Zy (Njz ops l k i).op=i.op/\Zy i.op=i.op)\/∃m f as,(Njz ops l k i).op=.call m f as/\i.op=.call .any f as):=by
 unfold Njz
 split
 ·rename_i h
  split
  ·exact ⟨rfl,rfl,.inr (.inr ⟨_,_,_,rfl,h⟩)⟩
  ·exact ⟨rfl,rfl,.inl rfl⟩
 ·rename_i h
  split
  ·exact ⟨rfl,rfl,.inr (.inl ⟨by rw [h];rfl,by rw [h];rfl⟩)⟩
  ·split
   ·exact ⟨rfl,rfl,.inr (.inl ⟨by rw [h];rfl,by rw [h];rfl⟩)⟩
   ·exact ⟨rfl,rfl,.inl rfl⟩
 ·rename_i h
  split
  ·exact ⟨rfl,rfl,.inr (.inl ⟨by rw [h];rfl,by rw [h];rfl⟩)⟩
  ·split
   ·exact ⟨rfl,rfl,.inr (.inl ⟨by rw [h];rfl,by rw [h];rfl⟩)⟩
   ·exact ⟨rfl,rfl,.inl rfl⟩
 ·rename_i h
  split
  ·split
   ·exact ⟨rfl,rfl,.inr (.inl ⟨by rw [h];rfl,by rw [h];rfl⟩)⟩
   ·exact ⟨rfl,rfl,.inl rfl⟩
  ·exact ⟨rfl,rfl,.inl rfl⟩
 ·exact ⟨rfl,rfl,.inl rfl⟩
theorem Nb8 {st:Bool} {ops:Array Oper} {n:Nat} {M:List AIns} (h:Xd P pureF st ops=some (.drawn n M)):∃ord L,Plan P pureF ops n ord L/\M=ord.map fun j=>L.getD j default:=by
 unfold Xd at h
 obtain ⟨W,ay,h⟩:=NZ h
 simp only at h
 generalize hk:late ops (W.map (Y0 st W))=k at h
 generalize ai:((W.map (Y0 st W)).zipIdx.map fun (i,j)=>if k=some j then toL i else i)=l2 at h
 generalize ak:(l2.zipIdx.map fun (i,j)=>if Nkl l2 then Njz ops l2 j i else if Mi ops l2 j then Nnk P i else i)=l at h
 generalize a6:N5h ops l.length (mks l) k=ord at h
 split at h
 case isFalse=>cases h
 rename_i hc
 simp only [Ny] at hc
 obtain ⟨⟨⟨⟨⟨H,ag⟩,T⟩,al⟩,u⟩,C⟩:=hc
 simp only [pure,Option.some.injEq,ACode.drawn.injEq] at h
 obtain ⟨hn,hM⟩:=h
 generalize hL:(l.zipIdx.map fun (p:AIns×Nat)=>Ndn l (QI (l.map fun x=>x.op)) (Rn ops (QI (l.map fun x=>x.op)) p.2 p.1))=L at hM u C
 refine ⟨ord,L, ?_,hM.symm⟩
 obtain ⟨ae,ab⟩:=MG ay
 have aj:l.length=ops.toList.length:=by rw [<-ak,Nu,List.length_zipIdx,<-ai,Nu,List.length_zipIdx,Nu];exact ae
 have S:∀(j:Nat) z,l2[j]? = some z->∃d,W[j]? = some d/\z.dst=d.dst/\z.guard=d.guard/\(z.op=d.op\/(Zy z.op=d.op/\∀f as,z.op≠.call .any f as)):=fun j z K=>by
  rw [<-ai,O2,List.getElem?_zipIdx,O2] at K
  simp only [Nc] at K
  obtain ⟨p,⟨q,⟨d,h0,rfl⟩,rfl⟩,rfl⟩:=K
  refine ⟨d,h0, ?_⟩
  obtain ⟨f1,f2,f3⟩:=Nn9 st W d
  simp only
  split
  ·obtain ⟨t1,t2,g⟩:=Nw8 (Y0 st W d)
   refine ⟨t1.trans f1,t2.trans f2, ?_⟩
   rcases g with g | ⟨g,_,_,_,_,_,N,t5⟩
   ·rcases f3 with f3 | ⟨f3,⟨_,_,_,_,_,f4⟩ | ⟨_,_,_,f4⟩⟩
    ·exact .inl (g.trans f3)
    ·exact .inr ⟨by rw [g];exact f3,by rw [g,f4];intro _ _ h;cases h⟩
    ·exact .inr ⟨by rw [g];exact f3,by rw [g,f4];intro _ _ h;cases h⟩
   ·rcases f3 with f3 | ⟨f3,⟨_,_,_,_,_,f4⟩ | ⟨_,_,_,f4⟩⟩
    ·exact .inr ⟨g.trans f3,t5⟩
    ·rw [N] at f4;cases f4
    ·rw [N] at f4;cases f4
  ·refine ⟨f1,f2, ?_⟩
   rcases f3 with f3 | ⟨f3,⟨_,_,_,_,_,f4⟩ | ⟨_,_,_,f4⟩⟩
   ·exact .inl f3
   ·exact .inr ⟨f3,by rw [f4];intro _ _ h;cases h⟩
   ·exact .inr ⟨f3,by rw [f4];intro _ _ h;cases h⟩
 have aa:∀(j:Nat) z,l[j]? = some z->∃d,W[j]? = some d/\z.dst=d.dst/\z.guard=d.guard/\(z.op=d.op\/Zy z.op=d.op\/∃m f as,z.op=.call m f as/\d.op=.call .any f as):=fun j z K=>by
  rw [<-ak,O2,List.getElem?_zipIdx] at K
  simp only [Nc] at K
  obtain ⟨p,⟨q,hq,rfl⟩,rfl⟩:=K
  obtain ⟨d,h0,f1,f2,f3⟩:=S j q hq
  refine ⟨d,h0, ?_⟩
  simp only
  split
  ·obtain ⟨t1,t2,g⟩:=Nsg (ops:=ops) (l:=l2) (k:=0+j) q
   refine ⟨t1.trans f1,t2.trans f2, ?_⟩
   rcases g with g | ⟨g,N⟩ | ⟨m,f,as,g,N⟩
   ·rcases f3 with f3 | f3
    ·exact .inl (g.trans f3)
    ·exact .inr (.inl (by rw [g];exact f3.1))
   ·rcases f3 with f3 | f3
    ·exact .inr (.inl (g.trans f3))
    ·exact .inr (.inl (g.trans (N.symm.trans f3.1)))
   ·rcases f3 with f3 | f3
    ·exact .inr (.inr ⟨m,f,as,g,f3.symm.trans N⟩)
    ·exact absurd N (f3.2 f as)
  split
  ·obtain ⟨t1,t2,g⟩:=Nsh (P:=P) q
   refine ⟨t1.trans f1,t2.trans f2, ?_⟩
   rcases g with g | ⟨m,f,as,g,N⟩
   ·rcases f3 with f3 | f3
    ·exact .inl (g.trans f3)
    ·exact .inr (.inl (by rw [g];exact f3.1))
   ·rcases f3 with f3 | f3
    ·exact .inr (.inr ⟨m,f,as,g,f3.symm.trans N⟩)
    ·exact absurd N (f3.2 f as)
  ·exact ⟨f1,f2,f3.imp id fun h=>.inl h.1⟩
 have a5:(QI (l.map (·.op))).length=l.length:=by unfold QI;rw [(M6 _ 0 0).1];simp
 have get:∀(j:Nat) i,L[j]? = some i->∃i0,l[j]? = some i0/\i=Ndn l (QI (l.map (·.op))) (Rn ops (QI (l.map (·.op))) j i0):=fun j i hi=>by
  rw [<-hL,O2,List.getElem?_zipIdx] at hi
  simp only [Nc] at hi
  obtain ⟨p,hp,rfl⟩:=hi
  obtain ⟨i0,h1,rfl⟩:=hp
  exact ⟨i0,h1,by simp⟩
 have rk:∀(j:Nat) i0,l[j]? = some i0->∃r,(QI (l.map (·.op)))[j]? = some r/\(makes i0.op=true->∃k,r=some k/\k<n)/\(makes i0.op=false->r=none):=fun j i0 ah=>by
  have hj:j<l.length:=(List.getElem?_eq_some_iff.1 ah).1
  have hr:(QI (l.map (·.op)))[j]? = some ((QI (l.map (·.op)))[j]'(by omega)):=Nf _
  refine ⟨_,hr, ?_⟩
  have:=(M6 (l.map (·.op)) 0 j).2 i0.op _ (by simp [ah]) (show (QI.go 0 (l.map (·.op)))[j]? = _ from hr)
  refine ⟨fun hm=>?_,this.2⟩
  obtain ⟨k,k1,k2,k3⟩:=this.1 hm
  exact ⟨k,k1,by rw [<-hn];simpa [QI] using k3⟩
 have getD:∀(j:Nat) r,(QI (l.map (·.op)))[j]? = some r->(QI (l.map (·.op))).getD j none=r:=fun j r h=>by
  rw [Na,h];rfl
 have lt:∀(j k:Nat),(QI (l.map (·.op))).getD j none=some k->k<n:=fun j k h=>by
  by_cases hj:j<l.length
  ·obtain ⟨r,r1,r2,r3⟩:=rk j _ (Nf hj)
   rw [getD j r r1] at h
   subst h
   cases hm:makes l[j].op with
   | true=>obtain ⟨k',k1,k2⟩:=r2 hm;simp at k1;omega
   | false=>have:=r3 hm;cases this
  ·rw [Na,Nw (by omega)] at h;cases h
 have v:=fun A i B h=>Nd3 (ops:=ops) ord [] ag A i B h
 simp only [Ok] at v
 simp only [Nxv,Ny] at H
 obtain ⟨⟨a2,a3⟩,a4⟩:=H
 have G:=Nbu a4
 refine ⟨by rw [<-hL];simp [aj],fun i=>⟨fun hi=>by simpa using N5.1 a2 i hi,fun hi=>by simpa using N5.1 a3 i (by simpa using hi)⟩,G,v,fun j o i ho hi=>?_,fun j i hi=>?_,fun A i B R j ad x y hx hy w1=>?_,fun j i r hi hr=>?_,fun j i r hi hr=>?_,fun i j x y r hx hy h1 h2=>?_⟩
 ·obtain ⟨i0,h1,rfl⟩:=get j i hi
  obtain ⟨z,K,f1,f2,f3⟩:=aa j i0 h1
  obtain ⟨O,Q,g3,_⟩:=UH l (QI (l.map (·.op))) (Rn ops (QI (l.map (·.op))) j i0)
  refine ⟨z,ab j o z (by simpa using ho) K,by rw [O];exact f1,by rw [Q];exact f2,by rw [g3];exact f3, ?_⟩
  have:=N5.1 al z (Od K)
  simpa using this
 ·have ac:=hi
  obtain ⟨i0,h1,rfl⟩:=get j i hi
  obtain ⟨r,r1,r2,r3⟩:=rk j i0 h1
  obtain ⟨O,Q,g3,g4⟩:=UH l (QI (l.map (·.op))) (Rn ops (QI (l.map (·.op))) j i0)
  refine ⟨fun hk=>?_,fun hm=>?_,fun hm=>(Nb5 C ac hm).imp fun _ h=>h.1⟩
  ·rw [g3] at hk
   rw [g4]
   have:¬(kind i0.op=.r\/kind i0.op=.w\/kind i0.op=.n\/kind i0.op=.c):=by
    have ax:kind i0.op=.p\/kind i0.op=.a\/kind i0.op=.s:=hk
    rcases ax with h | h | h<;>rw [h]<;>simp
   simp only [Rn,Nh this]
  ·rw [g3] at hm
   obtain ⟨k,k1,k2⟩:=r2 hm
   have a1:Yk i0.op=false:=by
    cases h:Yk i0.op with
    | false=>rfl
    | true=>have:=(Nz8 h).2;rw [show makes i0.op=true from hm] at this;cases this
   rw [XF (i:=Rn ops (QI (l.map (·.op))) j i0) a1]
   exact ⟨k,by simp only [Rn];rw [getD j r r1,k1]⟩
 ·have U:=hx
  have V:=hy
  obtain ⟨X,I,rfl⟩:=get j x hx
  obtain ⟨Y,J,rfl⟩:=get i y hy
  obtain ⟨an,ao,E,ap⟩:=UH l (QI (l.map (·.op))) (Rn ops (QI (l.map (·.op))) j X)
  obtain ⟨aq,ar,F,au⟩:=UH l (QI (l.map (·.op))) (Rn ops (QI (l.map (·.op))) i Y)
  have t:=M9 (ops:=ops) (L:=l) ord [] T A i B R j (by simpa using ad)
  unfold Noe at t
  rw [w1,I,J] at t
  simp only [Bool.false_or,Ny] at t
  have D:j≠i:=fun e=>by
   subst e
   rw [R] at G
   exact (Qe.1 G).2.2 j ad j No rfl
  have w2:waits ops ops.size j i=false:=by
   cases hw:waits ops ops.size j i with
   | false=>rfl
   | true=>
     exfalso
     obtain ⟨A1,A2,rfl⟩:=List.append_of_mem ad
     have:=Nbk v _ _ _ hw A1 (A2++i::B) (by rw [R];simp)
     rw [R] at G
     exact (Qe.1 G).2.2 i (Oq _ this) i No rfl
  have hm:∀{a b:Nat} {a0:AIns} {r:Nat},l[a]? = some a0->a≠b->waits ops ops.size b a=false->(QI (l.map (·.op))).getD a none=some r->r∈(List.range (QI (l.map (·.op))).length).filterMap fun c=>if c≠b/\!waits ops ops.size b c then (QI (l.map (·.op))).getD c none else none:=fun {a b a0 r} ha av hw hr=>by
   have aw:a<(QI (l.map (·.op))).length:=by
    rw [a5];exact (List.getElem?_eq_some_iff.1 ha).1
   exact List.mem_filterMap.2 ⟨a,List.mem_range.2 aw,by rw [Ni ⟨av,by simpa using hw⟩];exact hr⟩
  have apart:∀{a b a' b':AIns},a.dst=a'.dst->a.guard=a'.guard->a.op=a'.op->b.dst=b'.dst->b.guard=b'.guard->b.op=b'.op->Nbh a' b'=true->Nbh a b=true:=fun {a b a' b'} e1 e2 e3 e4 e5 e6 h=>by
   unfold Nbh AIns.looks at h⊢
   rw [e1,e2,e3,e4,e5,e6];exact h
  have am:∀{k:Kind},k=.r\/k=.w\/k=.n\/k=.c->k=.p\/k=.a\/k=.s->False:=fun h h'=>by
   rcases h with h | h | h | h<;>rw [h] at h'<;>simp at h'
  refine ⟨apart an ao E aq ar F t.1,by rw [E,F];exact t.2,fun hk r hr=>?_,fun hk r hr=>?_,fun r h1 h2=>?_⟩
  ·cases hS:Yk X.op with
   | true=>
     rcases (Zc u U V D w2 w1 (by rw [E];exact hS) hr).2 with h | h
     ·exact h
     ·exact (am hk h).elim
   | false=>
     rw [XF (i:=Rn ops (QI (l.map (·.op))) j X) hS] at hr
     rw [F] at hk
     rw [au]
     simp only [Rn] at hr hk⊢
     rw [Ni hk]
     exact hm I D w1 hr
  ·cases hS:Yk Y.op with
   | true=>
     rcases (Zc u V U (Ne.symm D) w1 w2 (by rw [F];exact hS) hr).2 with h | h
     ·exact h
     ·exact (am hk h).elim
   | false=>
     rw [XF (i:=Rn ops (QI (l.map (·.op))) i Y) hS] at hr
     rw [E] at hk
     rw [ap]
     simp only [Rn] at hr hk⊢
     rw [Ni hk]
     exact hm J (Ne.symm D) w2 hr
  ·cases hSx:Yk X.op with
   | true=>exact (Zc u U V D w2 w1 (by rw [E];exact hSx) h1).1 h2
   | false=>
     cases hSy:Yk Y.op with
     | true=>exact (Zc u V U (Ne.symm D) w1 w2 (by rw [F];exact hSy) h2).1 h1
     | false=>
       rw [XF (i:=Rn ops (QI (l.map (·.op))) j X) hSx] at h1
       rw [XF (i:=Rn ops (QI (l.map (·.op))) i Y) hSy] at h2
       simp only [Rn] at h1 h2
       obtain ⟨r1,O,_⟩:=rk j X I
       obtain ⟨r2,Q,_⟩:=rk i Y J
       rw [getD j r1 O] at h1
       rw [getD i r2 Q] at h2
       subst h1 h2
       exact D (Xh (l.map (·.op)) 0 j i r (by simpa [QI] using O) (by simpa [QI] using Q)).1
 ·have ac:=hi
  obtain ⟨i0,h1,rfl⟩:=get j i hi
  obtain ⟨O,Q,g3,g4⟩:=UH l (QI (l.map (·.op))) (Rn ops (QI (l.map (·.op))) j i0)
  cases hS:Yk i0.op with
  | true=>
    obtain ⟨r',e,az⟩:=Nb5 C ac (by rw [g3];exact hS)
    rw [e] at hr;cases hr
    rw [<-hn];exact az
  | false=>
    rw [XF (i:=Rn ops (QI (l.map (·.op))) j i0) hS] at hr
    exact lt j r hr
 ·obtain ⟨i0,h1,rfl⟩:=get j i hi
  rw [(UH l (QI (l.map (·.op))) (Rn ops (QI (l.map (·.op))) j i0)).2.2.2] at hr
  simp only [Rn] at hr
  split at hr
  ·obtain ⟨c,a7,Z⟩:=List.mem_filterMap.1 hr
   split at Z
   ·exact lt c r Z
   ·cases Z
  ·simp at hr
 ·obtain ⟨X,I,rfl⟩:=get i x hx
  obtain ⟨Y,J,rfl⟩:=get j y hy
  have made:∀{d:AIns} {k:Nat},(Ndn l (QI (l.map (·.op))) (Rn ops (QI (l.map (·.op))) k d)).made=some r->(Rn ops (QI (l.map (·.op))) k d).dest=some r:=fun {d k} h=>by
   unfold AIns.made at h
   rw [(UH l (QI (l.map (·.op))) (Rn ops (QI (l.map (·.op))) k d)).2.2.1] at h
   cases hS:Yk d.op with
   | true=>rw [show Yk (Rn ops (QI (l.map (·.op))) k d).op=true from hS] at h;cases h
   | false=>
     rw [show Yk (Rn ops (QI (l.map (·.op))) k d).op=false from hS] at h
     rw [XF (i:=Rn ops (QI (l.map (·.op))) k d) hS] at h
     exact h
  replace h1:=made h1
  replace h2:=made h2
  simp only [Rn] at h1 h2
  obtain ⟨r1,O,_⟩:=rk i X I
  obtain ⟨r2,Q,_⟩:=rk j Y J
  rw [getD i r1 O] at h1
  rw [getD j r2 Q] at h2
  subst h1 h2
  exact (Xh (l.map (·.op)) 0 i j r (by simpa [QI] using O) (by simpa [QI] using Q)).1
theorem Np3 {ops:Array Oper} {n:Nat} {M:List AIns} (h:V8 P pureF ops=some (.drawn n M)):∃ord L,Plan P pureF ops n ord L/\M=ord.map fun j=>L.getD j default:=by
 unfold V8 at h
 split at h
 ·rename_i c hc
  cases h
  exact Nb8 hc
 ·exact Nb8 h
theorem Naz {i:AIns} {r:Nat} (h:i.made=some r):i.dest=some r:=by
 unfold AIns.made at h
 split at h
 ·cases h
 ·exact h
end
section
variable {P:Program} {pf pureF:FuncId->Bool} {C:TP} {ds:List Deferred} {ro:Option Nat}
structure Todo (ops:Array Oper) (ord:List Nat) (listed:Array Bool) (τ:List Nat):Prop where
 mem:∀i,i∈τ↔i<ops.size/\listed.getD i true=false
 sub:τ.Sublist ord
 size:listed.size=ops.size
 closed:∀(i:Nat) o,ops[i]? = some o->listed.getD i false=true->∀e∈o.after.toList,Region.binds .any e=true->listed.getD e.on false=true
theorem getD_both {listed:Array Bool} {i n:Nat} (hs:listed.size=n) (hi:i<n):listed.getD i false=listed.getD i true:=by
 rw [N1,N1,N9 (by omega)]
 rfl
theorem Nhh (hC:CallOk (Prg.mk P pf) C) {ops:Array Oper} {n:Nat} {ord:List Nat} {L:List AIns} (pl:Plan P pureF ops n ord L) {N base:Nat} {Q:Exit->Act->World->Prop} (fr':Nat->Value) (H':NE) (W:Nat->Prop) (lim:Nat) (U:lim<=base) (M:PK) (H0:NE) (w0:World)
  (hQ:∀a w σ,State (Prg.mk P pf) ds W lim σ N fr' H' a w->Stp W w0 w->PK.le M σ->Grow lim H0 H'->(∀j,σ j≠M j->base<=j)->H0.length<=H'.length->Q .normal a w) :
  ∀(fuel:Nat) (listed:Array Bool) (τ:List Nat) (fr:Nat->Value) (H:NE) (a:Act) (w:World) (σ:PK),τ.length=fuel->Todo ops ord listed τ->State (Prg.mk P pf) ds W lim σ N fr H a w->Stp W w0 w->PK.le M σ->Grow lim H0 H->(∀j,σ j≠M j->base<=j)->H0.length<=H.length->
   Kept σ H base n (τ.filterMap fun i=>(L.getD i default).made)->YJ C N lim (some base) (τ.map fun i=>L.getD i default) fr H=some (fr',H')->wpAnyIn (WF ro) 0 P .any ops Q fuel listed a w
 | 0,listed,τ,fr,H,a,w,σ,hf,ht,hst,h1,h2,h3,O,h5,hk,K=>by
   have hτ:τ=[]:=List.length_eq_zero_iff.1 hf
   subst hτ
   simp [YJ] at K
   obtain ⟨rfl,rfl⟩:=K
   refine ⟨?_,hQ a w σ hst h1 h2 h3 O h5⟩
   rw [List.eq_nil_iff_forall_not_mem]
   intro i hi
   have:=Nau.1 hi
   have:=(ht.mem i).2 ⟨this.1,this.2.1⟩
   cases this
 | fuel+1,listed,τ,fr,H,a,w,σ,hf,ht,hst,h1,h2,h3,O,h5,hk,K=>by
   refine ⟨fun hr=>?_,fun i hi=>?_⟩
   ·
    exfalso
    cases τ with
    | nil=>simp at hf
    | cons t τ=>
      have Z:=(ht.mem t).1 No
      have:t∈Region.ready .any ops listed:=Nau.2 ⟨Z.1,Z.2,fun o ho e he g=>by
       cases hc:listed.getD e.on true with
       | true=>rw [getD_both ht.size ((pl.mem _).1 (by
         obtain ⟨E,r2,c,h1,h2⟩:=List.cons_sublist_iff.1 ht.sub
         obtain ⟨u,v,rfl⟩:=List.append_of_mem h1
         have:=pl.back u t (v++r2) (by rw [c];simp) o ho e he g
         rw [c];simp [this]))];exact hc
       | false=>
         exfalso
         obtain ⟨E,r2,c,h1,h2⟩:=List.cons_sublist_iff.1 ht.sub
         obtain ⟨u,v,rfl⟩:=List.append_of_mem h1
         have hu:=pl.back u t (v++r2) (by rw [c];simp) o ho e he g
         have ab:e.on<ops.size:=(pl.mem _).1 (by rw [c];simp [hu])
         have V:=pl.nodup
         rw [c,Nn] at V
         have hd:=(Qe.1 V).2.2 e.on hu
         have hm:=(ht.mem e.on).2 ⟨ab,hc⟩
         rcases Np.1 hm with h | h
         ·exact hd t (by simp) h
         ·exact hd e.on (by simp [h2.subset h]) rfl⟩
      rw [hr] at this
      cases this
   ·obtain ⟨E,r2,r3⟩:=Nau.1 hi
    have T:=(ht.mem i).2 ⟨E,r2⟩
    obtain ⟨A,B,rfl⟩:=List.append_of_mem T
    have ac:i<L.length:=by rw [pl.len];exact E
    have k:L[i]? = some (L.getD i default):=by rw [Na,Nf ac];rfl
    have D:∃A1 B1,ord=A1++i::B1/\A.Sublist A1:=by
     obtain ⟨E,r2,h1,h2,h3⟩:=List.append_sublist_iff.1 ht.sub
     obtain ⟨s1,s2,O,h5,h6⟩:=List.cons_sublist_iff.1 h3
     obtain ⟨u,v,rfl⟩:=List.append_of_mem h5
     exact ⟨E++u,v++s2,by rw [h1,O];simp,h2.trans (List.sublist_append_left _ _)⟩
    obtain ⟨A1,B1,X,aa⟩:=D
    have F:(A++i::B).Nodup:=ht.sub.nodup pl.nodup
    have hA:∀b∈A,Planned (L.getD b default)/\Sep (L.getD b default) (L.getD i default):=fun b g=>by
     have d:=(ht.mem b).1 (Oq _ g)
     have l:b<L.length:=by rw [pl.len];exact d.1
     have f:L[b]? = some (L.getD b default):=by rw [Na,Nf l];rfl
     refine ⟨pl.planned b _ f,pl.sep A1 i B1 X b (aa.subset g) _ _ f k ?_⟩
     cases hw:waits ops ops.size i b with
     | false=>rfl
     | true=>
       exfalso
       have key:∀m,waits ops m i b=true->listed.getD b false=true:=by
        intro m hm
        cases m with
        | zero=>simp [waits] at hm
        | succ m=>
          unfold waits at hm
          split at hm
          ·rename_i o ho
           obtain ⟨e,he,h2⟩:=List.any_eq_true.1 hm
           simp only [Ny,Bool.or_eq_true,beq_iff_eq] at h2
           have S:=r3 o ho e he h2.1
           rcases h2.2 with h3 | h3
           ·rw [<-h3];exact S
           ·exact Mr ht.closed m e.on b S h3
          ·cases hm
       have:=key _ hw
       rw [getD_both ht.size d.1,d.2] at this
       cases this
    have R:=N1l (N:=N) (lim:=lim) (base:=base) hC.toCallOk0 (pl.planned i _ k) (B.map fun i=>L.getD i default) (A.map fun i=>L.getD i default) fr H _ hst.lim (fun r hr=>by have:=pl.dest i _ r k hr;have:=hk.len;omega) (fun x K=>by
     obtain ⟨b,g,rfl⟩:=List.mem_map.1 K
     refine ⟨hA b g,fun r hr=>?_⟩
     have d:=(ht.mem b).1 (Oq _ g)
     have l:b<L.length:=by rw [pl.len];exact d.1
     have f:L[b]? = some (L.getD b default):=by rw [Na,Nf l];rfl
     have:=pl.dest b _ r f hr
     have:=hk.len
     omega) (by simpa using K)
    obtain ⟨fr1,H1,ai,aj⟩:=Xt R
    have G:ops[i]? = some ops[i]:=N9 E
    obtain ⟨i0,ah,e1,e2,e3,e4⟩:=pl.ins i _ _ G k
    refine N4a hC G ah ⟨e1,e2,e3⟩ e4 hst U hk (fun r hr=>⟨List.mem_filterMap.2 ⟨i,T,hr⟩,pl.dest i _ r k (Naz hr)⟩) (fun r hr=>pl.mask i _ r k hr) ai fun σ' a' w' q1 q2 q3 q4 q5 q6 q7=>?_
    have s:i∉A:=fun h=>(Qe.1 F).2.2 i h i No rfl
    have y:i∉B:=(List.nodup_cons.1 (Qe.1 F).2.1).1
    have Y:∀j,(listed.setIfInBounds i true).getD j true=if j=i then true else listed.getD j true:=fun j=>by
     rw [N1,N1]
     by_cases p:j=i
     ·subst p
      rw [Ni rfl,Array.getElem?_setIfInBounds_self_of_lt (by rw [ht.size];exact E)];rfl
     ·rw [Nh p,Pr (fun h=>p h.symm)]
    have I:∀j,(listed.setIfInBounds i true).getD j false=if j=i then true else listed.getD j false:=fun j=>by
     rw [N1,N1]
     by_cases p:j=i
     ·subst p
      rw [Ni rfl,Array.getElem?_setIfInBounds_self_of_lt (by rw [ht.size];exact E)];rfl
     ·rw [Nh p,Pr (fun h=>p h.symm)]
    have ag:Todo ops ord (listed.setIfInBounds i true) (A++B):=by
     refine ⟨fun j=>?_, ?_,by simpa using ht.size,fun j o ho hl e he g=>?_⟩
     ·have hm:=ht.mem j
      rw [Y]
      constructor
      ·intro p
       have ae:j∈A++i::B:=by
        rcases Ol.1 p with h | h
        ·exact Oq _ h
        ·exact P0 _ (Nk _ h)
       obtain ⟨g1,J⟩:=hm.1 ae
       have q:j≠i:=fun e=>by
        subst e
        rcases Ol.1 p with h | h
        ·exact s h
        ·exact y h
       exact ⟨g1,by rw [Nh q];exact J⟩
      ·rintro ⟨g1,J⟩
       by_cases q:j=i
       ·rw [Ni q] at J;cases J
       ·rw [Nh q] at J
        have:=hm.2 ⟨g1,J⟩
        rcases Ol.1 this with h | h
        ·exact Oq _ h
        ·rcases Np.1 h with h | h
         ·exact absurd h q
         ·exact P0 _ h
     ·exact (List.Sublist.append_left (List.sublist_cons_self i B) A).trans ht.sub
     ·rw [I] at hl⊢
      by_cases p:j=i
      ·subst p
       have:=r3 o ho e he g
       split
       ·rfl
       ·exact this
      ·rw [Nh p] at hl
       have:=ht.closed j o ho hl e he g
       split
       ·rfl
       ·exact this
    refine Nhh hC pl fr' H' W lim U M H0 w0 hQ fuel _ (A++B) fr1 H1 a' w' σ' (by simp at hf⊢;omega) ag q1 (h1.trans q2) (PK.le_trans h2 q3) (h3.trans q4) (fun j p=>?_) (by omega) ⟨q5.len,q5.own,fun r hr=>q5.free r ?_,fun r hr=>?_⟩ (by simpa using aj)
    ·apply N4
     intro hc
     have e1:σ j=M j:=N4 fun e=>hc (O j e)
     rcases q6 j (fun e=>p (e.trans e1)) with ⟨r,_,h⟩ | h
     ·omega
     ·have:=hk.len;omega
    ·obtain ⟨b,g,z⟩:=List.mem_filterMap.1 hr
     refine O0.2 ⟨List.mem_filterMap.2 ⟨b, ?_,z⟩, ?_⟩
     ·rcases Ol.1 g with h | h
      ·exact Oq _ h
      ·exact P0 _ (Nk _ h)
     ·simp only [ne_eq,decide_not,Bool.not_eq_true',decide_eq_false_iff_not]
      intro ad
      have d:b∈A++i::B:=by
       rcases Ol.1 g with h | h
       ·exact Oq _ h
       ·exact P0 _ (Nk _ h)
      have l:b<L.length:=by rw [pl.len];exact ((ht.mem b).1 d).1
      have f:L[b]? = some (L.getD b default):=by rw [Na,Nf l];rfl
      have:=pl.inj b i _ _ r f k z ad
      subst this
      rcases Ol.1 g with h | h
      ·exact s h
      ·exact y h
    ·obtain ⟨b,g,z⟩:=List.mem_filterMap.1 hr
     have d:b∈A++i::B:=by
      rcases Ol.1 g with h | h
      ·exact Oq _ h
      ·exact P0 _ (Nk _ h)
     have l:b<L.length:=by rw [pl.len];exact ((ht.mem b).1 d).1
     have f:L[b]? = some (L.getD b default):=by rw [Na,Nf l];rfl
     exact pl.dest b _ r f (Naz z)
end
end Go.AM


