/-
  Joined texts, 2 of 10. A part of the claim that the last text states.
-/
import Derived.RangeFuncRecord
import Derived.OrdersIn
import Derived.Test.YtkppjkkkdpcgiaaGreatPC1
set_option linter.unusedVariables false
set_option linter.unusedSimpArgs false
set_option linter.defProp false
set_option linter.unusedSectionVars false
set_option maxRecDepth 100000
set_option maxHeartbeats 4000000
namespace Go.AM
open Go.MapKept
section
variable {P:Program} {pureF:FuncId->Bool} {Pg:Prg} {W:Nat->Prop} {lim:Nat} {σ:PK} {H H':NE} {w:World} {dest:Option Nat} {ρ ρ':Operand->Value} {v:Value}
theorem OA {α β:Type} {x:Option α} {f:α->Option β} {b:β} (h:(x >>= f)=some b):∃a,x=some a/\f a=some b:=by
 cases x with
 | none=>cases h
 | some a=>exact ⟨a,rfl,h⟩
theorem Nbd (w:World) (st j ty e:TypeId) (i:TypeInfo) (z:Value) {q:IntKind} (ht:P.underlying st=some (.slice e)) (o:P.underlying j=some (.int q)) (hi:P.info? e=some i) (p:i.zero=some z)
  (h:z.cells.size=i.size) (g:i.size≠0) (k:IntKind) (l:Int) (h0:0<l) (a:l*i.bytes<=140737488355328) (m:l<2 ^ 62) :
  (Builtin.append_ #[st,j] ty #[.slice none 0 0,.int k l]).run P w =
   .ok (.slice (some ⟨w.heap.size,0,none⟩) l.toNat (grownCap w l.toNat 0 e))
    (w.drew.alloc (.cells (madeCells z.cells (l.toNat*i.size)++Builtin.zeroCells z.cells (grownCap w l.toNat 0 e-l.toNat)) e)):=by
 have t:IntKind.i64.wrap l=l:=by rw [IntKind.wrap_i64];omega
 obtain ⟨n,rfl⟩:∃n:Nat,l=n:=⟨l.toNat,by omega⟩
 have r:¬(n:Int)<0:=by omega
 have d:n*i.bytes<=140737488355328:=by rw [<-Int.natCast_mul] at a;omega
 have s:¬(281474976710656<(n:Int)*i.bytes):=by omega
 have hn:¬(n=0):=by omega
 have c:¬(9223372036854775807<(n:Int)):=by omega
 have b:¬(281474976710656<Builtin.nextslicecap n 0*i.bytes):=by
  have:=growslice_fits (need:=n) (old:=0) (bytes:=i.bytes) (by omega) d;omega
 have f:¬(n*i.size=0):=by rw [Nat.mul_eq_zero];omega
 simp [Builtin.append_,run_underlying ht,run_underlying o,asInt,asIntOf,sizeOf,typeInfo,zeroValue,hi,p,t,r,s,hn,c,b,f,g,Question.forced,Builtin.firstCells,newRow,grownCap,madeCells,h,Builtin.zeroCells]
theorem Ngy (f:Inv Pg W lim σ H w) (hd:∀d,dest=some d->d<H.length/\σ d=none) {st Q ty e:TypeId} {U:IntKind} (S:P.underlying st=some (.slice e)) (M:P.underlying Q=some (.int U))
  {esz bytes:Nat} (E:PE P e=some esz) (D:Vx P e=some bytes) {z:List Value} (T:zeroOf P e=some z) (N:z.length=esz) (C:esz≠0) {os x:Operand}
  (hs:VRel σ (ρ os) (ρ' os)) (t:VRel σ (ρ x) (ρ' x)) (o:NJ lim dest (.growNil esz bytes z os x) ρ H=some (v,H')) {run:Result Next}
  (s:run=((Builtin.append_ #[st,Q] ty #[ρ' os,ρ' x]).run P w).andThen fun v w'=>.ok (.value v) w'):OG Pg W lim σ dest H w run v H':=by
 obtain ⟨i,a,hi,O,rfl,A⟩:=Uv T
 obtain ⟨X,q,G⟩:=Zf E
 rw [hi] at q;cases q
 obtain ⟨Y,r,F⟩:=Mw D
 rw [hi] at r;cases r
 subst G F
 have u:a.cells.size=i.size:=by simpa using N
 simp only [NJ] at o
 split at o
 case h_2=>cases o
 rename_i V l L hl
 split at o
 case isFalse=>cases o
 rename_i B
 obtain ⟨b1,b2,b3⟩:=B
 cases hp:place dest (.cells false ((List.range (l.toNat*i.size)).map fun j=>a.cells.toList.getD (j % a.cells.toList.length) undef)) H with
 | mk k K=>
 rw [hp] at o
 cases o
 rw [L] at hs;rw [hl] at t
 obtain ⟨_,_,J⟩:=hs.nilslice_left
 have R:=Nbd (P:=P) w st Q ty e i a S M hi O u C V l b1 (by omega) b3
 have p:=grownCap_ge w l.toNat 0 e
 have b:∀j,VRel σ (a.cells.toList.getD (j % a.cells.toList.length) undef) (a.cells[j % a.cells.size]!)/\(a.cells[j % a.cells.size]!).oneCell'=true:=fun j=>by
  have hj:j % a.cells.size<a.cells.size:=P7 _ (by omega)
  have e1:a.cells.toList.getD (j % a.cells.toList.length) undef=a.cells[j % a.cells.size]:=by
   rw [Na,Array.length_toList,Array.getElem?_toList,Ob hj];rfl
  have e2:a.cells[j % a.cells.size]! = a.cells[j % a.cells.size]:=by simp [hj]
  rw [e1,e2]
  have:=A _ (Array.mem_toList_iff.2 (Array.getElem_mem hj))
  exact ⟨.atom this.1,this.2⟩
 have m:(madeCells a.cells (l.toNat*i.size)++Builtin.zeroCells a.cells (grownCap w l.toNat 0 e-l.toNat)).size=grownCap w l.toNat 0 e*i.size:=by
  rw [Array.size_append,size_zeroCells,size_madeCells,u,<-Pv];congr 1;omega
 refine OG.made f hd hp (cs:=madeCells a.cells (l.toNat*i.size)++Builtin.zeroCells a.cells (grownCap w l.toNat 0 e-l.toNat)) (el:=e) (fun j y hj=>?_) ?_ f.drew (Stp.drew) (v':=.slice (some ⟨w.heap.size,0,none⟩) l.toNat (grownCap w l.toNat 0 e)) ?_ ?_
 ·rw [O6] at hj
  simp only [Nc] at hj
  obtain ⟨Z,g,rfl⟩:=hj
  have h:j<l.toNat*i.size:=by simpa using (List.getElem?_eq_some_iff.1 g).1
  rw [List.getElem?_range h] at g
  cases g
  refine ⟨a.cells[j % a.cells.size]!, ?_,(b j).1,(b j).2⟩
  rw [Array.getElem?_append_left (by rw [size_madeCells];exact h)]
  simp [madeCells,h]
 ·rw [m];simp only [Nv,Pr];exact O1 _ p
 ·rw [s,J,t.int_left,R];rfl
 ·have I:0+grownCap w l.toNat 0 e*i.size<=(madeCells a.cells (l.toNat*i.size)++Builtin.zeroCells a.cells (grownCap w l.toNat 0 e-l.toNat)).size:=by omega
  have:=VRel.lslice (σ:=σ.put k ⟨w.drew.heap.size,0,(madeCells a.cells (l.toNat*i.size)++Builtin.zeroCells a.cells (grownCap w l.toNat 0 e-l.toNat)).size⟩) (i:=k) (k:=0) (n:=l.toNat) (e:=i.size) (c:=grownCap w l.toNat 0 e) PK.put_same p I
  simpa using this
theorem Ng2 {K:Bool} {o:Oper} {c:Call} (J:o.op=.call c) {b:Builtin} (R:c.callee=.builtin b) {Y:AOp} (f:Na2 P pureF K o=some Y) (g:Inv Pg W lim σ H w)
  (hρ:∀x,PU x=true->VRel σ (ρ x) (ρ' x)) (hd:∀d,dest=some d->d<H.length/\σ d=none) (i:NJ lim dest Y ρ H=some (v,H')):OG Pg W lim σ dest H w ((execOp ρ' o).run P w) v H':=by
 have p:=Nj7 (ρ':=ρ') o c b J R
 unfold Na2 at f
 split at f
 ·cases f
 rename_i O
 simp only [Bool.not_eq_true,Bool.not_eq_false'] at O
 have l:∀x∈c.args.toList,VRel σ (ρ x) (ρ' x):=fun x i=>hρ x (Nlt (by simpa using O) (by
  rw [J];simp only [Op.operands,Call.operands,R];simpa using i))
 rw [J] at f
 simp only [R] at f
 cases b<;>simp only at f<;>try (cases f;done)
 case append=>
  split at f
  case h_2=>cases f
  rename_i s x st xt e1 e2
  have M:c.argTypes=#[st,xt]:=by apply Array.ext';simpa using e2
  have hs:=l s (by simp [e1])
  have j:=l x (by simp [e1])
  have G:∀(ty:TypeId),(execOp ρ' o).run P w=((Builtin.append_ #[st,xt] o.type #[ρ' s,ρ' x]).run P w).andThen fun v w'=>.ok (.value v) w':=by
   intro _
   rw [p,Ngb e1,M]
   simp [builtin]
  split at f
  ·rename_i e e' D E
   obtain ⟨n,hn,f⟩:=OA f
   obtain ⟨Z,B,f⟩:=OA f
   obtain ⟨z,F,f⟩:=OA f
   split at f
   case isFalse=>cases f
   rename_i A
   cases f
   simp only [NJ] at i
   exact Nas g hd (ty:=o.type) D (str:=false) (by simpa using ⟨_,E⟩) hn B F A hs j i (G 0)
  ·rename_i e D E
   obtain ⟨n,hn,f⟩:=OA f
   obtain ⟨Z,B,f⟩:=OA f
   obtain ⟨z,F,f⟩:=OA f
   split at f
   case isFalse=>cases f
   rename_i A
   cases f
   simp only [NJ] at i
   exact Nas g hd (ty:=o.type) D (str:=true) (by simpa using ⟨E,A.2⟩) hn B F A.1 hs j i (G 0)
  ·rename_i e kd D E
   obtain ⟨n,hn,f⟩:=OA f
   obtain ⟨Z,B,f⟩:=OA f
   obtain ⟨z,F,f⟩:=OA f
   split at f
   case isFalse=>cases f
   rename_i A
   cases f
   exact Ngy g hd D E hn B F A.1 A.2 hs j i (G 0)
  ·cases f
 case copy=>
  split at f
  case h_2=>cases f
  rename_i d x dt rest e1 e2
  split at f
  case h_2=>cases f
  rename_i e q
  simp only [Nc] at f
  obtain ⟨n,hn,rfl⟩:=f
  obtain ⟨w',v',q1,q2,q3,Q,q5⟩:=Nqz (P:=P) (ty:=o.type) g (Xa e2) q hn (l d (by simp [e1])) (l x (by simp [e1])) i
  refine OG.wrote g (nx:=.value v') ?_ rfl q2 q3 Q q5
  rw [p,Ngb e1]
  exact Sq _ _ _ _ _ _ rfl q1
 case clear=>
  split at f
  case h_2=>cases f
  rename_i x t rest e1 e2
  split at f
  case h_2=>cases f
  rename_i e q
  simp only [Nc] at f
  obtain ⟨z,F,rfl⟩:=f
  obtain ⟨w',q1,rfl,q2,q3,Q⟩:=Nnl (P:=P) (ty:=o.type) g (Xa e2) q F (l x (by simp [e1])) i
  refine OG.wrote g (nx:=.value (.tuple #[])) ?_ rfl (.atom rfl) q2 q3 Q
  rw [p,Xz e1]
  exact Sq _ _ _ _ _ _ rfl q1
 case delete=>
  split at f
  case h_2=>cases f
  rename_i m k t rest e1 e2
  split at f
  case h_2=>cases f
  rename_i kt e q
  simp only [Nc] at f
  obtain ⟨kk,hk,rfl⟩:=f
  obtain ⟨w',q1,q2,q3,Q,rfl⟩:=Nqw (P:=P) (ty:=o.type) g q hk (l m (by simp [e1])) (l k (by simp [e1])) i (Xa e2)
  refine OG.wrote g (nx:=.value (.tuple #[])) ?_ rfl (.atom rfl) q2 q3 Q
  rw [p,Ngb e1]
  exact Sq _ _ _ _ _ _ rfl q1
 case cap=>
  split at f
  case h_2=>cases f
  rename_i x t e1 e2
  have j:=l x (by simp [e1])
  have h0:c.argTypes[0]? = some t:=Xa e2
  split at f
  ·rename_i e q
   cases f
   simp only [NJ] at i
   split at i
   case h_2=>cases i
   rename_i a n cc hs
   split at i
   case isFalse=>cases i
   rename_i C
   cases i
   rw [hs] at j
   have:∃a' n',ρ' x=.slice a' n' cc:=by
    cases a with
    | none=>obtain ⟨rfl,rfl,h⟩:=j.nilslice_left;exact ⟨_,_,h⟩
    | some a=>
      obtain ⟨_,L,_,⟨_,h⟩ | ⟨e',T,_,_,_,h⟩ | ⟨_,S,rfl,h⟩⟩:=j.slice_left
      ·exact ⟨_,_,h⟩
      ·exfalso;rw [T] at C;unfold loose at C;omega
      ·rcases S with rfl | ⟨e',rfl⟩
       ·exact ⟨_,_,h⟩
       ·exfalso;unfold loose at C;omega
   obtain ⟨a',n',h⟩:=this
   refine OG.plain g (v':=.int .i64 cc) ?_ (.atom rfl)
   rw [p,Xz e1]
   refine Sq _ _ _ _ _ _ rfl ?_
   rw [h]
   simp [Builtin.cap_,h0,run_underlying q,goInt]
  ·cases f
 case len=>
  split at f
  case h_2=>cases f
  rename_i x t e1 e2
  have j:=l x (by simp [e1])
  have h0:c.argTypes[0]? = some t:=Xa e2
  split at f
  ·rename_i q
   cases f
   simp only [NJ] at i
   split at i
   case h_2=>cases i
   rename_i s hs
   cases i
   rw [hs] at j
   refine OG.plain g (v':=.int .i64 s.size) ?_ (.atom rfl)
   rw [p,Xz e1]
   exact Sq _ _ _ _ _ _ rfl ((Njt h0).1 q s j.string_left)
  ·rename_i e q
   cases f
   simp only [NJ] at i
   split at i
   case h_2=>cases i
   rename_i a n cc hs
   cases i
   rw [hs] at j
   have:∃a' c',ρ' x=.slice a' n c':=by
    cases a with
    | none=>obtain ⟨rfl,rfl,h⟩:=j.nilslice_left;exact ⟨_,_,h⟩
    | some a=>
      obtain ⟨_,L,_,⟨_,h⟩ | ⟨_,_,_,_,_,h⟩ | ⟨_,_,rfl,h⟩⟩:=j.slice_left
      ·exact ⟨_,_,h⟩
      ·exact ⟨_,_,h⟩
      ·exact ⟨_,_,h⟩
   obtain ⟨a',c',h⟩:=this
   refine OG.plain g (v':=.int .i64 n) ?_ (.atom rfl)
   rw [p,Xz e1]
   exact Sq _ _ _ _ _ _ rfl ((Njt h0).2.1 ⟨e,q⟩ _ _ _ h)
  ·rename_i k e q
   cases f
   simp only [NJ,Nc,Prod.mk.injEq] at i
   obtain ⟨es,U,rfl,rfl⟩:=i
   refine OG.plain g (v':=.int .i64 es.length) ?_ (.atom rfl)
   rw [p,Xz e1]
   refine Sq _ _ _ _ _ _ rfl ?_
   rcases g.entries j U with ⟨I,rfl⟩ | ⟨r,L,ents,clock,ab,B,hL,I,hh,N,aa⟩
   ·rw [I];simp [Builtin.len_,h0,run_underlying q,goInt]
   ·rw [I];simp [Builtin.len_,h0,run_underlying q,MapKept.run_getObj_map hh,goInt,N]
  ·rename_i n e q
   cases f
   simp only [NJ] at i
   cases i
   refine OG.plain g (v':=.int .i64 n) ?_ (.atom rfl)
   rw [p,Xz e1]
   exact Sq _ _ _ _ _ _ rfl ((Njt h0).2.2 n e q)
  ·cases f
 case max=>
  cases f
  simp only [NJ] at i
  split at i
  ·cases i
  rename_i x r u
  simp only [Nc,Prod.mk.injEq] at i
  obtain ⟨z,F,rfl,rfl⟩:=i
  obtain ⟨X,h1,h2⟩:=V5 (P:=P) (w:=w) (σ:=σ) true (r.map ρ) (r.map ρ') (ρ x) (ρ' x) z (l x (by simp [u])) (VJ fun y V=>l y (by simp [u,V])) F
  refine OG.plain g (v':=X) ?_ h2
  rw [p]
  refine Sq _ _ _ _ _ _ rfl ?_
  have:(c.args.map ρ').toList=ρ' x::r.map ρ':=by simp [u]
  unfold Builtin.max_
  rw [this]
  exact h1
 case min=>
  cases f
  simp only [NJ] at i
  split at i
  ·cases i
  rename_i x r u
  simp only [Nc,Prod.mk.injEq] at i
  obtain ⟨z,F,rfl,rfl⟩:=i
  obtain ⟨X,h1,h2⟩:=V5 (P:=P) (w:=w) (σ:=σ) false (r.map ρ) (r.map ρ') (ρ x) (ρ' x) z (l x (by simp [u])) (VJ fun y V=>l y (by simp [u,V])) F
  refine OG.plain g (v':=X) ?_ h2
  rw [p]
  refine Sq _ _ _ _ _ _ rfl ?_
  have:(c.args.map ρ').toList=ρ' x::r.map ρ':=by simp [u]
  unfold Builtin.min_
  rw [this]
  exact h1
theorem Nwr {ac:Bool} {o:Oper} {ao:AOp} (g:Na2 P pureF ac o=some ao) (A:Inv Pg W lim σ H w) (hρ:∀x,PU x=true->VRel σ (ρ x) (ρ' x)) (hd:∀d,dest=some d->d<H.length/\σ d=none)
  (u:NJ lim dest ao ρ H=some (v,H')):OG Pg W lim σ dest H w ((execOp ρ' o).run P w) v H':=by
 obtain ⟨dst,op,type,pos,after,guard⟩:=o
 by_cases S:∃c,op=.call c
 ·obtain ⟨c,rfl⟩:=S
  by_cases O:∃b,c.callee=.builtin b
  ·obtain ⟨b,O⟩:=O
   exact Ng2 (o:=⟨dst,.call c,type,pos,after,guard⟩) rfl O g A hρ hd u
  ·unfold Na2 at g
   split at g
   ·cases g
   simp only at g
   cases hc:c.callee with
   | builtin b=>exact absurd ⟨b,hc⟩ O
   | value f=>rw [hc] at g;simp at g;subst g;simp [NJ] at u
   | invoke r m=>rw [hc] at g;simp at g
 unfold Na2 at g
 split at g
 ·cases g
 rename_i ap
 simp only [Bool.not_eq_true,Bool.not_eq_false'] at ap
 have C:∀x∈op.operands,VRel σ (ρ x) (ρ' x):=fun x u=>hρ x (Nlt (o:=⟨dst,op,type,pos,after,guard⟩) (by simpa using ap) u)
 cases op<;>(try simp only at g)<;>try (cases g;done)
 case call c=>exact absurd ⟨c,rfl⟩ S
 case move x=>
  cases g;simp only [NJ] at u;cases u
  exact OG.plain A (v':=ρ' x) rfl (C x (by simp [Op.operands]))
 case assign x=>
  cases g;simp only [NJ] at u;cases u
  exact OG.plain A (v':=ρ' x) rfl (C x (by simp [Op.operands]))
 case pick c a b=>
  cases g;simp only [NJ] at u
  have hc:=C c (by simp [Op.operands])
  split at u
  ·rename_i h;cases u;rw [h] at hc
   exact OG.plain A (v':=ρ' a) (by simp [execOp,hc.bool_left,asBool]) (C a (by simp [Op.operands]))
  ·rename_i h;cases u;rw [h] at hc
   exact OG.plain A (v':=ρ' b) (by simp [execOp,hc.bool_left,asBool]) (C b (by simp [Op.operands]))
  ·cases u
 case alloc e=>
  simp only [Nc] at g
  obtain ⟨z,X,rfl⟩:=g
  exact Nnv A hd X u _ rfl
 case box e x=>
  cases g
  exact Nwc A hd (C x (by simp [Op.operands])) u _ rfl
 case build t parts=>
  obtain ⟨z,X,g⟩:=OA g
  split at g
  ·rename_i fs F
   obtain ⟨ps,a0,g⟩:=OA g
   split at g
   case isFalse=>cases g
   rename_i ah
   cases g
   exact M3 A F X a0 ah hρ u _ rfl
  ·rename_i n e F
   obtain ⟨s,hs,g⟩:=OA g
   cases g
   exact Nap A F X hs (fun x u=>C x.2 (by simp only [Op.operands];simp;exact ⟨x.1,by simpa using u⟩)) u _ rfl
  ·cases g
 case buildSlice t len parts=>
  split at g
  ·rename_i e F
   obtain ⟨s,hs,g⟩:=OA g
   obtain ⟨z,X,g⟩:=OA g
   split at g
   ·cases g
   rename_i E
   cases g
   exact Nb1 A hd F X hs (Oj fun h=>E (.inl h)) (fun h=>E (.inr (.inl h))) (Nat.le_of_not_lt fun h=>E (.inr (.inr h)))
    (fun x u=>C x.2 (by simp only [Op.operands];simp;exact ⟨x.1,by simpa using u⟩)) u _ rfl
  ·cases g
 case load t a=>
  obtain ⟨ag,M,g⟩:=OA g
  have Y:=C a (by simp [Op.operands])
  cases ag with
  | true=>
    simp only [if_true,Nc] at g
    obtain ⟨n,hn,rfl⟩:=g
    simp only [NJ] at u
    split at u
    case h_2=>cases u
    rename_i p hp
    simp only [Nc,Prod.mk.injEq] at u
    obtain ⟨c,hc,rfl,rfl⟩:=u
    rw [hp] at Y
    obtain ⟨L,hL,G,h2⟩:=Y.ptr_left
    obtain ⟨v',R,Z⟩:=Nck (P:=P) A M hn hL hc
    refine OG.plain A (v':=v') ?_ Z
    simp only [execOp]
    refine OV P w _ ?_
    simp [Instr.loadAt,Instr.sureAddr,h2,R]
  | false=>
    simp only [Nz,if_false,Option.some.injEq] at g
    subst g
    simp only [NJ] at u
    split at u
    case h_2=>cases u
    rename_i p hp
    simp only [Nc,Prod.mk.injEq] at u
    obtain ⟨c,hc,rfl,rfl⟩:=u
    rw [hp] at Y
    obtain ⟨L,hL,G,h2⟩:=Y.ptr_left
    obtain ⟨v',R,Z⟩:=Ncl (P:=P) A M hL hc
    refine OG.plain A (v':=v') ?_ Z
    simp only [execOp]
    refine OV P w _ ?_
    simp [Instr.loadAt,Instr.sureAddr,h2,R]
 case store t a x=>
  simp only [Nc] at g
  obtain ⟨n,hn,rfl⟩:=g
  have Y:=C a (by simp [Op.operands])
  have B:=C x (by simp [Op.operands])
  simp only [NJ] at u
  split at u
  case h_2=>cases u
  rename_i p hp
  split at u
  case isFalse=>cases u
  rename_i E
  simp only [Nc,Prod.mk.injEq] at u
  obtain ⟨H2,a2,rfl,rfl⟩:=u
  rw [hp] at Y
  obtain ⟨L,hL,G,h2⟩:=Y.ptr_left
  obtain ⟨w',q1,q2,q3,q4⟩:=A.store (P:=P) hL a2 B.cells (B.cells_one E.2)
  refine OG.wrote A (nx:=.skip) ?_ rfl (.atom rfl) q2 q3 q4
  simp only [execOp]
  refine Neh P w _ ?_
  have a3:(ρ' x).cells.size=n:=by have:=B.cells.1;simp at this;rw [<-this];exact E.1
  simp [Instr.storeAt,Instr.sureAddr,h2,storeVar,Sr hn,a3,q1]
 case nilCheck x=>
  cases g
  have B:=C x (by simp [Op.operands])
  simp only [NJ] at u
  split at u
  ·rename_i p hp
   cases u
   rw [hp] at B
   obtain ⟨L,hL,G,h2⟩:=B.ptr_left
   exact OG.plain A (v':=ρ' x) (by simp [execOp,h2]) B
  ·rename_i f a b hp
   cases u
   rw [hp] at B
   obtain ⟨c,d,h2,_,_⟩:=B.func_left
   exact OG.plain A (v':=ρ' x) (by simp [execOp,h2]) B
  ·cases u
 case binOp op t x y yt=>
  have B:=C x (by simp [Op.operands])
  have U:=C y (by simp [Op.operands])
  have bin:∀{r},NJ lim dest (.bin op x y) ρ H=some (v,r)->OG Pg W lim σ dest H w ((execOp ρ' ⟨dst,.binOp op t x y yt,type,pos,after,guard⟩).run P w) v r:=by
   intro r u
   simp only [NJ,Nc,Prod.mk.injEq] at u
   obtain ⟨c,hc,rfl,rfl⟩:=u
   have Q:ρ' x=ρ x/\ρ' y=ρ y/\VRel σ c c:=by
    have D:=hc
    unfold NG at D
    split at D
    ·rename_i k a k' b e1 e2
     rw [e1] at B;rw [e2] at U
     refine ⟨by rw [B.int_left,e1],by rw [U.int_left,e2], ?_⟩
     have:atom c=true:=by
      split at D
      ·split at D<;>cases D<;>rfl
      ·split at D<;>cases D<;>rfl
      ·split at D
       ·cases op<;>simp at D<;>first | (subst D;rfl) | (obtain ⟨_,rfl⟩:=D;rfl)
       ·cases D
     exact .atom this
    ·rename_i a b e1 e2
     rw [e1] at B;rw [e2] at U
     refine ⟨by rw [B.string_left,e1],by rw [U.string_left,e2], ?_⟩
     have:atom c=true:=by
      cases op<;>simp at D<;>first | (subst D;rfl) | (obtain ⟨_,rfl⟩:=D;rfl)
     exact .atom this
    ·cases D
   refine OG.plain A (v':=c) ?_ Q.2.2
   simp only [execOp]
   refine OV P w _ ?_
   rw [Q.1,Q.2.1]
   exact Nrh op t x y hc
  have ad:∀{neg:Bool} {k:EqKind} {r},op=(if neg then .neq else .eql)->Us P t=some k->NJ lim dest (.eqv neg k x y) ρ H=some (v,r)->
    OG Pg W lim σ dest H w ((execOp ρ' ⟨dst,.binOp op t x y yt,type,pos,after,guard⟩).run P w) v r:=by
   intro neg k r aq hk u
   simp only [NJ] at u
   split at u
   case h_2=>cases u
   rename_i b O
   cases u
   refine OG.plain A (v':=.bool (if neg then !b else b)) ?_ (.atom rfl)
   simp only [execOp,aq]
   exact OV P w _ (Nwt w neg hk x y B U O)
  split at g
  ·cases g;exact bin u
  ·cases g;exact bin u
  ·split at g
   ·simp only [Nc] at g
    obtain ⟨k,hk,rfl⟩:=g
    exact ad (neg:=false) rfl hk u
   ·simp only [Nc] at g
    obtain ⟨k,hk,rfl⟩:=g
    exact ad (neg:=true) rfl hk u
   ·cases g
 case unOp op t x=>
  cases g
  have B:=C x (by simp [Op.operands])
  simp only [NJ,Nc,Prod.mk.injEq] at u
  obtain ⟨c,hc,rfl,rfl⟩:=u
  have Q:ρ' x=ρ x/\VRel σ c c:=by
   have D:=hc
   unfold NQ at D
   split at D
   ·rename_i b e1;rw [e1] at B;cases D;exact ⟨by rw [B.bool_left,e1],.atom rfl⟩
   ·rename_i k n e1;rw [e1] at B;cases D;exact ⟨by rw [B.int_left,e1],.atom rfl⟩
   ·rename_i k n e1;rw [e1] at B;cases D;exact ⟨by rw [B.int_left,e1],.atom rfl⟩
   ·cases D
  refine OG.plain A (v':=c) ?_ Q.2
  simp only [execOp]
  refine OV P w _ ?_
  rw [Q.1]
  exact Nwp op hc
 case convert s d x=>
  have B:=C x (by simp [Op.operands])
  split at g
  ·rename_i k' k hs N
   cases g
   simp only [NJ] at u
   split at u
   case h_2=>cases u
   rename_i q n hq
   cases u
   rw [hq] at B
   refine OG.plain A (v':=.int k (k.wrap n)) ?_ (.atom rfl)
   simp only [execOp]
   refine OV P w _ ?_
   rw [B.int_left]
   simp [convert,run_underlying hs,run_underlying N,Conv.intToInt]
  ·rename_i hs N
   cases g
   simp only [NJ] at u
   split at u
   case h_2=>cases u
   rename_i q hq
   cases u
   rw [hq] at B
   refine OG.plain A (v':=.string q) ?_ (.atom rfl)
   simp only [execOp]
   refine OV P w _ ?_
   rw [B.string_left]
   simp [convert,run_underlying hs,run_underlying N]
  rotate_left
  ·rename_i e e' hs N
   split at g
   case h_2=>cases g
   rename_i he
   split at g
   case isFalse=>cases g
   rename_i a1
   cases g
   subst a1
   have ax:e'=e:=by rw [hs] at N;cases N;rfl
   subst ax
   exact Ngv (o:=⟨dst,.convert s s x,type,pos,after,guard⟩) A hs he B u
  rotate_right
  ·rename_i e hs N
   split at g
   ·rename_i he
    cases g
    obtain ⟨v',q1,q2,rfl⟩:=Nwi (P:=P) A hs he N B u
    refine OG.plain A (v':=v') ?_ q2
    simp only [execOp]
    exact OV P w _ q1
   ·cases g
  ·cases g
 case makeFunc fn first captured=>
  cases fn<;>simp only at g<;>try (cases g;done)
  rename_i f
  cases g
  simp only [NJ] at u
  cases u
  refine OG.plain A (v':=.func (.func f) (first.map ρ') (captured.map ρ')) rfl ?_
  have key:∀(l:Array Operand),(∀x∈l,VRel σ (ρ x) (ρ' x))->∀i (h:i<((l.toList.map ρ).toArray).size) (h':i<(l.map ρ').size),VRel σ ((l.toList.map ρ).toArray)[i] (l.map ρ')[i]:=fun l hl i h h'=>by
   simp only [List.getElem_toArray,P6,Array.getElem_map,Array.getElem_toList]
   exact hl _ (Array.getElem_mem _)
  exact .func (by simp) (by simp) (key first fun x u=>C x (by simp [Op.operands,u])) (key captured fun x u=>C x (by simp [Op.operands,u]))
 case makeMap t r=>
  split at g
  ·rename_i kt e F
   cases g
   simp only [NJ] at u
   split at u
   case h_2=>cases u
   rename_i hr
   cases hp:place dest (.map []) H with
   | mk k K=>
   rw [hp] at u
   cases u
   obtain ⟨i1,i2⟩:=A.allocMap hp hd
   obtain ⟨g1,g2,g3,g4,g5,g6,g7⟩:=TU hp fun d e=>(hd d e).1
   refine ⟨.value (.map (some w.heap.size)),_,_,_, ?_,rfl,VRel.map PK.put_same,i1,Stp.alloc A.fresh _,PK.le_put i2,fun j hj=>?_,g3,fun aw=>?_⟩
   ·simp only [execOp]
    refine OV P w _ ?_
    cases r with
    | none=>simp [Instr.makeMap]
    | some x=>
      have B:=C x (by simp [Op.operands])
      cases hxx:ρ x<;>simp [hxx] at hr
      rw [hxx] at B
      simp [Instr.makeMap,B.int_left,run_underlying F,asInt,asIntOf]
   ·by_cases e:j=k
    ·subst e
     cases dest with
     | none=>exact .inr ⟨rfl,by rw [g5 rfl];exact Nd _⟩
     | some d=>exact .inl (by rw [(g6 d rfl).1])
    ·simp [PK.put,e] at hj
   ·cases dest with
    | none=>exact absurd rfl aw
    | some d=>exact (g6 d rfl).2
  ·cases g
 case makeInterface t x=>cases g;simp [NJ] at u
 case panic x=>cases g;simp [NJ] at u
 case makeSlice t l c=>
  split at g
  ·rename_i e F
   obtain ⟨s,hs,g⟩:=OA g
   obtain ⟨bb,O,g⟩:=OA g
   obtain ⟨z,X,g⟩:=OA g
   split at g
   ·cases g
   rename_i E
   cases g
   have a7:z.length=s:=Oj fun h=>E (.inl h)
   have ba:s≠0:=fun h=>E (.inr h)
   obtain ⟨i,I,hi,a8,rfl,au⟩:=Uv X
   obtain ⟨i2,aj,az⟩:=Zf hs
   rw [hi] at aj;cases aj
   obtain ⟨i3,ak,ay⟩:=Mw O
   rw [hi] at ak;cases ak
   subst az ay
   have am:=C l (by simp [Op.operands])
   have ai:=C c (by simp [Op.operands])
   simp only [NJ] at u
   split at u
   case h_2=>cases u
   rename_i kl ln kc cn hl hc
   split at u
   case isFalse=>cases u
   rename_i av
   obtain ⟨b1,b2,b3,b4⟩:=av
   cases hp:place dest (.cells false ((List.range (cn.toNat*i.size)).map fun j=>I.cells.toList.getD (j % I.cells.toList.length) undef)) H with
   | mk k K=>
   rw [hp] at u
   cases u
   rw [hl] at am;rw [hc] at ai
   have V:∀j,VRel σ (I.cells.toList.getD (j % I.cells.toList.length) undef) (I.cells[j % I.cells.size]!)/\(I.cells[j % I.cells.size]!).oneCell'=true:=fun j=>by
    have hj:j % I.cells.size<I.cells.size:=P7 _ (by simp at a7;omega)
    have e1:I.cells.toList.getD (j % I.cells.toList.length) undef=I.cells[j % I.cells.size]:=by
     rw [Na,Array.length_toList,Array.getElem?_toList,Ob hj];rfl
    have e2:I.cells[j % I.cells.size]! = I.cells[j % I.cells.size]:=by simp [hj]
    rw [e1,e2]
    have:=au _ (Array.mem_toList_iff.2 (Array.getElem_mem hj))
    exact ⟨.atom this.1,this.2⟩
   refine OG.made A hd hp (cs:=madeCells I.cells (cn.toNat*i.size)) (el:=e) (fun j y hj=>?_) (by simp [size_madeCells]) A (Stp.refl _ _) (v':=.slice (some ⟨w.heap.size,0,none⟩) ln.toNat cn.toNat) ?_ ?_
   ·rw [O6] at hj
    simp only [Nc] at hj
    obtain ⟨j',ab,rfl⟩:=hj
    have al:j<cn.toNat*i.size:=by simpa using (List.getElem?_eq_some_iff.1 ab).1
    rw [List.getElem?_range al] at ab
    cases ab
    exact ⟨I.cells[j % I.cells.size]!,by simp [madeCells,al],(V j).1,(V j).2⟩
   ·simp only [execOp]
    refine OV P w _ ?_
    rw [am.int_left,ai.int_left]
    exact run_make w t e i I F hi a8 kl kc ln cn b1 b2 (by rw [Int.mul_comm];omega) (by omega)
   ·have ae:cn.toNat<2 ^ 62:=by omega
    simpa using VRel.slice (σ:=σ.put k ⟨w.heap.size,0,(madeCells I.cells (cn.toNat*i.size)).size⟩) (i:=k) (k:=0) (n:=ln.toNat) PK.put_same ae
  ·cases g
 case slice t x lo hi mx=>
  have B:=C x (by simp [Op.operands])
  have aa:∀y∈lo.toList++hi.toList++mx.toList,VRel σ (ρ y) (ρ' y):=fun y hy=>C y (by
   simp only [Op.operands];simp at hy⊢;rcases hy with h | h | h<;>simp [h])
  split at g
  ·rename_i e F
   obtain ⟨s,hs,g⟩:=OA g
   split at g
   ·cases g
   cases g
   simp only [NJ,Nc,Prod.mk.injEq] at u
   obtain ⟨c,hc,rfl,rfl⟩:=u
   obtain ⟨v',q1,q2⟩:=Nix (P:=P) (w:=w) F hs B aa hc
   refine OG.plain A (v':=v') ?_ q2
   simp only [execOp]
   exact OV P w _ q1
  ·rename_i n e F
   obtain ⟨s,hs,g⟩:=OA g
   split at g
   ·cases g
   cases g
   simp only [NJ] at u
   split at u
   case h_2=>cases u
   rename_i a Y
   split at u
   case h_2=>cases u
   rename_i l h' m O
   split at u
   case isFalse=>cases u
   rename_i ae
   cases u
   rw [Y] at B
   obtain ⟨L,hL,G,h2⟩:=B.ptr_left
   obtain ⟨m',r1,r2,r3,r4,r5,r6,r7⟩:=Tq (P:=P) (w:=w) O aa (Nd _) false
   have hm:m'=m:=by
    by_cases e:mx=none
    ·rw [(r2 e).1,(r2 e).2]
    ·exact r3 e
   subst hm
   refine OG.plain A (v':=.slice (some (if m'=l then ⟨L.blk,L.base+a.off,none⟩ else (⟨L.blk,L.base+a.off,none⟩:Addr).add (l*s))) (h'-l) (m'-l)) ?_ ?_
   ·simp only [execOp]
    refine OV P w _ ?_
    rw [h2]
    simp [Instr.sliceAt,run_underlying F,Instr.sureAddr,r1,Sr hs]
   ·split
    ·exact VRel.slice' G hL (by omega)
    ·rw [TV a _ G,TV _ _ rfl]
     have:=VRel.slice (σ:=σ) (i:=a.block) (k:=a.off+l*s) (n:=h'-l) (c:=m'-l) hL (by omega)
     rw [<-Pj] at this
     exact this
  ·rename_i F
   split at g
   ·cases g
   rename_i a9
   cases g
   have an:mx=none:=by cases mx<;>simp_all
   subst an
   simp only [NJ] at u
   split at u
   case h_2=>cases u
   rename_i q hq
   split at u
   case h_2=>cases u
   rename_i l h' m O
   cases u
   rw [hq] at B
   obtain ⟨m',r1,r2,r3,r4,r5,r6,r7⟩:=Tq (P:=P) (w:=w) O aa (Nd _) false
   refine OG.plain A (v':=.string (q.extract l h')) ?_ (.atom rfl)
   simp only [execOp]
   refine OV P w _ ?_
   rw [B.string_left]
   simp only [Oq] at r1
   simp [Instr.sliceAt,Instr.slice,run_underlying F,r1]
  ·cases g
 case fieldAddr s x f=>
  have B:=C x (by simp [Op.operands])
  split at g
  ·rename_i fs F
   obtain ⟨fd,hf,g⟩:=OA g
   obtain ⟨n,hn,g⟩:=OA g
   split at g
   ·cases g
   rename_i h0
   cases g
   simp only [NJ] at u
   split at u
   case h_2=>cases u
   rename_i p hp
   cases u
   rw [hp] at B
   obtain ⟨L,hL,G,h2⟩:=B.ptr_left
   refine OG.plain A ?_ (VRel.ptr_add hL G fd.offset)
   simp only [execOp]
   refine OV P w _ ?_
   rw [h2]
   exact Nk6 F hf hn h0 _
  ·cases g
 case field s x f=>
  have B:=C x (by simp [Op.operands])
  split at g
  ·rename_i fs F
   obtain ⟨fd,hf,g⟩:=OA g
   obtain ⟨n,hn,g⟩:=OA g
   obtain ⟨ag,M,g⟩:=OA g
   cases ag with
   | true=>
     simp only [if_true] at g
     cases g
     simp only [NJ] at u
     split at u
     case h_2=>cases u
     rename_i cs T
     cases u
     rw [T] at B
     obtain ⟨ys,h2,R,Z⟩:=B.agg_left
     refine OG.plain A (v':=.agg (ys.extract fd.offset (fd.offset+n))) ?_ (VRel.agg_iff.2 ⟨?_, ?_⟩)
     ·simp only [execOp]
      refine OV P w _ ?_
      rw [h2]
      simp [Instr.field,run_underlying F,hf,asAgg,Nbb M hn]
     ·rw [extract_toList];simpa using (R.drop fd.offset).take n
     ·rw [extract_toList];exact fun y hy=>Z y (List.mem_of_mem_drop (Q0 hy))
   | false=>
     simp only [Nz,if_false] at g
     cases g
     simp only [NJ] at u
     split at u
     case h_2=>cases u
     rename_i cs T
     simp only [Nc,Prod.mk.injEq] at u
     obtain ⟨c,hc,rfl,rfl⟩:=u
     rw [T] at B
     obtain ⟨ys,h2,R,Z⟩:=B.agg_left
     obtain ⟨y,h5,h6⟩:=R.get hc
     refine OG.plain A (v':=y) ?_ h6
     simp only [execOp]
     refine OV P w _ ?_
     rw [h2]
     simp [Instr.field,run_underlying F,hf,asAgg,Nbc M (by simpa using h5)]
  ·cases g
 case indexAddr t x ix=>
  have B:=C x (by simp [Op.operands])
  have J:=C ix (by simp [Op.operands])
  split at g
  ·rename_i e F
   obtain ⟨s,hs,g⟩:=OA g
   cases g
   simp only [NJ] at u
   split at u
   case h_2=>cases u
   rename_i p len cap k n hp hi
   split at u
   case isFalse=>cases u
   rename_i hn
   cases u
   rw [hp] at B;rw [hi] at J
   obtain ⟨G,L,hL,hc⟩:=B.slice_left
   have a5:∃c',ρ' x=.slice (some ⟨L.blk,L.base+p.off,none⟩) len c':=by
    rcases hc with ⟨_,h⟩ | ⟨_,_,_,_,_,h⟩ | ⟨_,_,h0,h⟩
    ·exact ⟨_,h⟩
    ·exact ⟨_,h⟩
    ·rw [h0] at hn;simp at hn;omega
   obtain ⟨c',h2⟩:=a5
   refine OG.plain A ?_ (VRel.ptr_add hL G (n.toNat*s))
   simp only [execOp]
   refine OV P w _ ?_
   rw [h2,J.int_left]
   exact Mh F hs _ len c' k n hn
  ·rename_i len e F
   obtain ⟨s,hs,g⟩:=OA g
   cases g
   simp only [NJ] at u
   split at u
   case h_2=>cases u
   rename_i p k n hp hi
   split at u
   case isFalse=>cases u
   rename_i hn
   cases u
   rw [hp] at B;rw [hi] at J
   obtain ⟨L,hL,G,h2⟩:=B.ptr_left
   refine OG.plain A ?_ (VRel.ptr_add hL G (n.toNat*s))
   simp only [execOp]
   refine OV P w _ ?_
   rw [h2,J.int_left]
   exact Mi F hs _ k n hn
  ·cases g
 case index t x ix=>
  have B:=C x (by simp [Op.operands])
  have J:=C ix (by simp [Op.operands])
  split at g
  ·rename_i len e F
   obtain ⟨s,hs,g⟩:=OA g
   obtain ⟨ag,M,g⟩:=OA g
   cases g
   simp only [NJ] at u
   split at u
   case h_2=>cases u
   rename_i cs k n T hi
   split at u
   case isFalse=>cases u
   rename_i hn
   rw [T] at B;rw [hi] at J
   obtain ⟨ys,h2,R,Z⟩:=B.agg_left
   cases ag with
   | true=>
     simp only [if_true] at u
     cases u
     refine OG.plain A (v':=.agg (ys.extract (n.toNat*s) (n.toNat*s+s))) ?_ (VRel.agg_iff.2 ⟨?_, ?_⟩)
     ·simp only [execOp]
      refine OV P w _ ?_
      rw [h2,J.int_left,Xe F hs ys k n hn]
      exact Nbb M hs
     ·rw [extract_toList];simpa using (R.drop (n.toNat*s)).take s
     ·rw [extract_toList];exact fun y hy=>Z y (List.mem_of_mem_drop (Q0 hy))
   | false=>
     simp only [Nz,if_false,Nc,Prod.mk.injEq] at u
     obtain ⟨c,hc,rfl,rfl⟩:=u
     obtain ⟨y,h5,h6⟩:=R.get hc
     refine OG.plain A (v':=y) ?_ h6
     simp only [execOp]
     refine OV P w _ ?_
     rw [h2,J.int_left,Xe F hs ys k n hn]
     exact Nbc M (by simpa using h5)
  ·rename_i F
   cases g
   simp only [NJ] at u
   split at u
   case h_2=>cases u
   rename_i q k n hq hi
   split at u
   case isFalse=>cases u
   rename_i hn
   simp only [Nc,Prod.mk.injEq] at u
   obtain ⟨b,O,rfl,rfl⟩:=u
   rw [hq] at B;rw [hi] at J
   refine OG.plain A (v':=.int .u8 b.toNat) ?_ (.atom rfl)
   simp only [execOp]
   refine OV P w _ ?_
   rw [B.string_left,J.int_left]
   exact MM F q k n hn O
  ·cases g
 case lookup t m k ok=>
  split at g
  ·rename_i kt e F
   obtain ⟨z,X,g⟩:=OA g
   obtain ⟨kk,hk,g⟩:=OA g
   cases g
   exact Njp A F hk X (C m (by simp [Op.operands])) (C k (by simp [Op.operands])) u _ rfl
  ·cases g
 case mapUpdate t m k x=>
  split at g
  ·rename_i kt e F
   simp only [Nc] at g
   obtain ⟨kk,hk,rfl⟩:=g
   obtain ⟨w',q1,q2,q3,q4,rfl⟩:=ZF (P:=P) A F hk (C m (by simp [Op.operands])) (C k (by simp [Op.operands])) (C x (by simp [Op.operands])) u
   refine OG.wrote A (nx:=.skip) ?_ rfl (.atom rfl) q2 q3 q4
   simp only [execOp]
   exact Neh P w _ q1
  ·cases g
 case insert t m k x=>
  split at g
  ·rename_i kt e F
   simp only [Nc] at g
   obtain ⟨kk,hk,rfl⟩:=g
   obtain ⟨w',q1,q2,q3,q4,rfl⟩:=ZF (P:=P) A F hk (C m (by simp [Op.operands])) (C k (by simp [Op.operands])) (C x (by simp [Op.operands])) u
   refine OG.wrote A (nx:=.skip) ?_ rfl (.atom rfl) q2 q3 q4
   simp only [execOp]
   exact Neh P w _ q1
  ·cases g
 case extract x ix=>
  have B:=C x (by simp [Op.operands])
  cases g
  simp only [NJ] at u
  split at u
  case h_2=>cases u
  rename_i vs a4
  simp only [Nc,Prod.mk.injEq] at u
  obtain ⟨c,hc,rfl,rfl⟩:=u
  rw [a4] at B
  obtain ⟨ys,h2,R⟩:=B.tuple_left
  obtain ⟨y,h5,h6⟩:=R.get hc
  refine OG.plain A (v':=y) ?_ h6
  simp only [execOp]
  refine OV P w _ ?_
  rw [h2]
  have ar:ys[ix]? = some y:=by simpa using h5
  simp [Instr.extract,ar]
end
end Go.AM


namespace Go.AM
theorem OW (base:Nat):∀(l:List Nat) (H:NE),(OD base l H).length=H.length
 | [],_=>rfl
 | i::l,H=>by simp only [OD,Ok];exact (OW base l _).trans (by simp)
theorem PH (base:Nat) (H0:NE):∀(l:List Nat) (H:NE),(NZ base l H0 H).length=H.length
 | [],_=>rfl
 | i::l,H=>by simp only [NZ,Ok];exact (PH base H0 l _).trans (by simp)
theorem QY (base:Nat) {j:Nat}:∀(l:List Nat) (H:NE),(∀i∈l,base+i≠j)->(OD base l H)[j]? = H[j]?
 | [],_,_=>rfl
 | i::l,H,h=>by
   simp only [OD,Ok]
   have:=QY base (j:=j) l (H.set (base+i) .dead) fun k hk=>h k (Nk _ hk)
   simp only [OD] at this
   rw [this,N7,Ng (h i Nm)]
theorem Vl (base:Nat) {j:Nat}:∀(l:List Nat) (H:NE),(∃i∈l,base+i=j)->j<H.length->(OD base l H)[j]? = some .dead
 | [],_,h,_=>by simp at h
 | i::l,H,h,hj=>by
   simp only [OD,Ok]
   by_cases hl:∃k∈l,base+k=j
   ·exact Vl base l _ hl (by simpa using hj)
   ·have h0:base+i=j:=by
     obtain ⟨k,hk,e⟩:=h
     rcases Nr.1 hk with rfl | hk
     ·exact e
     ·exact absurd ⟨k,hk,e⟩ hl
    have:=QY base (j:=j) l (H.set (base+i) .dead) fun k hk e=>hl ⟨k,hk,e⟩
    simp only [OD] at this
    rw [this,N7,Ni h0,Ni (by omega)]
theorem R8 (base:Nat) (H0:NE) {j:Nat}:∀(l:List Nat) (H:NE),(∀i∈l,base+i≠j)->(NZ base l H0 H)[j]? = H[j]?
 | [],_,_=>rfl
 | i::l,H,h=>by
   simp only [NZ,Ok]
   have:=R8 base H0 (j:=j) l (H.set (base+i) (NI H0 (base+i))) fun k hk=>h k (Nk _ hk)
   simp only [NZ] at this
   rw [this,N7,Ng (h i Nm)]
theorem Sj (base:Nat) (H0:NE) {j:Nat}:∀(l:List Nat) (H:NE),(∃i∈l,base+i=j)->j<H.length->(NZ base l H0 H)[j]? = some (NI H0 j)
 | [],_,h,_=>by simp at h
 | i::l,H,h,hj=>by
   simp only [NZ,Ok]
   by_cases hl:∃k∈l,base+k=j
   ·exact Sj base H0 l _ hl (by simpa using hj)
   ·have h0:base+i=j:=by
     obtain ⟨k,hk,e⟩:=h
     rcases Nr.1 hk with rfl | hk
     ·exact e
     ·exact absurd ⟨k,hk,e⟩ hl
    have:=R8 base H0 (j:=j) l (H.set (base+i) (NI H0 (base+i))) fun k hk e=>hl ⟨k,hk,e⟩
    simp only [NZ] at this
    rw [this,N7,Ni h0,Ni (by omega),h0]
theorem Nac {H:NE} {j:Nat} (h:j<H.length):H[j]? = some (NI H j):=by
 unfold NI
 rw [Na,Nf h]
 rfl
theorem Tj (base:Nat) (l:List Nat) (H:NE):NZ base l H (OD base l H)=H:=by
 apply List.ext_getElem?
 intro j
 by_cases hj:j<H.length
 ·by_cases hl:∃i∈l,base+i=j
  ·rw [Sj base H l _ hl (by rw [OW];exact hj),Nac hj]
  ·have a:∀i∈l,base+i≠j:=fun i hi e=>hl ⟨i,hi,e⟩
   rw [R8 base H l _ a,QY base l _ a]
 ·rw [Nx (by rw [PH,OW];omega),Nx (by omega)]
theorem Nzz (base:Nat) (l:List Nat) (H:NE) {r:Nat} (hr:r∈l) (b:Blk):OD base l (H.set (base+r) b)=OD base l H:=by
 apply List.ext_getElem?
 intro j
 by_cases hj:j<H.length
 ·by_cases hl:∃i∈l,base+i=j
  ·rw [Vl base l _ hl (by simpa using hj),Vl base l _ hl hj]
  ·have a:∀i∈l,base+i≠j:=fun i hi e=>hl ⟨i,hi,e⟩
   rw [QY base l _ a,QY base l _ a,N7,Ng (a r hr)]
 ·rw [Nx (by rw [OW];simp;omega),Nx (by rw [OW];omega)]
theorem Nko (base:Nat) (l:List Nat) (H X:NE) {r:Nat} (hr:r∈l) (b:Blk) (c:base+r<H.length) (d:H.length<=X.length):NZ base l (H.set (base+r) b) X=(NZ base l H X).set (base+r) b:=by
 apply List.ext_getElem?
 intro j
 by_cases hj:j<X.length
 ·by_cases hl:∃i∈l,base+i=j
  ·rw [Sj base _ l X hl hj,N7]
   by_cases he:base+r=j
   ·subst he
    rw [Ni rfl,Ni (by rw [PH];exact hj)]
    unfold NI
    rw [Na,Rc c]
    rfl
   ·rw [Ng he,Sj base H l X hl hj]
    unfold NI
    rw [Na,Qk he,<-Na]
  ·have a:∀i∈l,base+i≠j:=fun i hi e=>hl ⟨i,hi,e⟩
   rw [R8 base _ l X a,Qk (a r hr),R8 base H l X a]
 ·rw [Nx (by rw [PH];omega),Nx (by rw [Py,PH];omega)]
theorem UV {d:Nat} {b:Blk} {H:NE}:place (some d) b H=(d,H.set d b):=rfl
theorem Ndm {o:AOp} (hk:kind o=.p) (lim:Nat) (dest:Option Nat) (ρ:Operand->Value) (H:NE) :
  NJ lim dest o ρ H=((NJ lim dest o ρ []).map (·.1)).map (·,H):=by
 cases o<;>simp [kind] at hk<;>simp only [NJ]
 case mov=>rfl
 case lenK=>rfl
 case makeFunc=>rfl
 case pick c a b=>cases ρ c<;>first | rfl | (rename_i b;cases b<;>rfl)
 case bin op x y=>cases NG op (ρ x) (ρ y)<;>rfl
 case eqv neg k x y=>cases aEq k (ρ x) (ρ y)<;>rfl
 case un op x=>cases NQ op (ρ x)<;>rfl
 case conv k x=>cases ρ x<;>rfl
 case build z ps=>cases Sc ρ ps z<;>rfl
 case nilCheck x=>cases ρ x<;>first | rfl | (rename_i a;cases a<;>rfl) | (rename_i f a b;cases f<;>rfl)
 case fieldAddr o x=>cases ρ x<;>first | rfl | (rename_i a;cases a<;>rfl)
 case field1 o x=>cases ρ x<;>first | rfl | (rename_i cs;simp only [];cases cs.toList[o]?<;>rfl)
 case fieldN o n x=>cases ρ x<;>rfl
 case idxAddrA l e x i=>split<;>first | rfl | (split<;>rfl)
 case idxAddrS e x i=>split<;>first | rfl | (split<;>rfl)
 case idxA l e d x i=>
  split
  ·split
   ·split
    ·rfl
    ·simp [Function.comp_def]
   ·rfl
  ·rfl
 case idxStr x i=>
  split
  ·split
   ·simp [Function.comp_def]
   ·rfl
  ·rfl
 case sliceS e x lo hi mx=>cases Un e ρ (ρ x) lo hi mx<;>rfl
 case sliceA n e x lo hi mx=>
  split
  ·split
   ·split<;>rfl
   ·rfl
  ·rfl
 case sliceStr x lo hi=>
  split
  ·split<;>rfl
  ·rfl
 case lenStr x=>cases ρ x<;>rfl
 case lenSlice x=>cases ρ x<;>rfl
 case capSlice x=>
  cases ρ x<;>try rfl
  rename_i a n c
  by_cases h:c<2 ^ 62<;>simp only [h,if_true,if_false]<;>rfl
 case die=>rfl
 case minmax mx xs=>
  cases xs with
  | nil=>rfl
  | cons x r=>simp only [];cases R9 mx (ρ x) (r.map ρ)<;>rfl
 case extract i x=>cases ρ x<;>first | rfl | (rename_i vs;simp only [];cases vs.toList[i]?<;>rfl)
 case strId x=>cases ρ x<;>rfl
 case call mp f args=>split at hk<;>cases hk
theorem N02 {o:AOp} (hk:kind o=.p) {lim:Nat} {dest:Option Nat} {ρ:Operand->Value} {H H':NE} {v:Value} (h:NJ lim dest o ρ H=some (v,H')) :
  H'=H/\∀a,NJ lim dest o ρ a=some (v,a):=by
 rw [Ndm hk] at h
 cases hg:(NJ lim dest o ρ []).map (·.1) with
 | none=>rw [hg] at h;cases h
 | some c=>
   rw [hg] at h
   cases h
   exact ⟨rfl,fun a=>by rw [Ndm hk,hg];rfl⟩
theorem YE {o:AOp} (hk:kind o=.r) (hc:∀mp f args,o≠.call mp f args) {lim:Nat} {dest:Option Nat} {ρ:Operand->Value} {H H':NE} {v:Value} (h:NJ lim dest o ρ H=some (v,H')):H'=H:=by
 have fin:∀{x:Option Value},(x.map fun c=>(c,H))=some (v,H')->H'=H:=by
  intro x h
  cases x with
  | none=>cases h
  | some c=>cases h;rfl
 cases o<;>simp [kind] at hk<;>simp only [NJ] at h
 case load1=>split at h;exact fin h;cases h
 case loadN=>
  split at h
  ·simp only [Nc,Prod.mk.injEq] at h;obtain ⟨_,_,_,h⟩:=h;exact h.symm
  ·cases h
 case loadR=>
  split at h
  ·split at h
   ·simp only [Nc,Prod.mk.injEq] at h;obtain ⟨_,_,_,h⟩:=h;exact h.symm
   ·cases h
  ·cases h
 case loadO=>
  split at h
  ·split at h
   ·simp only [Nc,Prod.mk.injEq] at h;obtain ⟨_,_,_,h⟩:=h;exact h.symm
   ·cases h
  ·cases h
 case lenMap=>simp only [Nc,Prod.mk.injEq] at h;obtain ⟨_,_,_,h⟩:=h;exact h.symm
 case lookup=>
  split at h
  ·split at h
   ·split at h<;>cases h<;>rfl
   ·cases h
  ·cases h
 case rowMark=>
  split at h
  ·split at h
   ·split at h
    ·cases h;rfl
    ·cases h
   ·cases h
  ·cases h
 case b2s=>
  split at h
  ·split at h<;>cases h;rfl
  ·split at h
   ·split at h<;>cases h;rfl
   ·cases h
  ·cases h
 case call=>cases h
theorem N04 {o:AOp} (hk:kind o=.a) {lim d:Nat} {ρ:Operand->Value} {H H':NE} {v:Value} (h:NJ lim (some d) o ρ H=some (v,H')) :
  ∃b,H'=H.set d b/\∀c,NJ lim (some d) o ρ c=some (v,c.set d b):=by
 cases o<;>simp [kind] at hk<;>simp only [NJ,UV] at h⊢
 case alloc=>cases h;exact ⟨_,rfl,fun _=>rfl⟩
 case box x=>
  split at h
  case isFalse=>cases h
  rename_i ht
  cases h
  exact ⟨_,rfl,fun _=>by rw [Ni ht]⟩
 case buildSlice=>
  split at h
  case h_2=>cases h
  cases h
  exact ⟨_,rfl,fun _=>rfl⟩
 case makeSlice=>
  split at h
  case h_2=>cases h
  split at h
  case isFalse=>cases h
  rename_i hc
  cases h
  exact ⟨_,rfl,fun _=>by rw [Ni hc]⟩
 case growNil=>
  split at h
  case h_2=>cases h
  split at h
  case isFalse=>cases h
  rename_i hc
  cases h
  exact ⟨_,rfl,fun _=>by rw [Ni hc]⟩
 case makeMap=>
  split at h
  case h_2=>cases h
  cases h
  exact ⟨_,rfl,fun _=>rfl⟩
 case call mp f args=>split at hk<;>cases hk
theorem Xp {X:NE} {i j:Nat} {b:Blk} (h:i≠j):NI (X.set j b) i=NI X i:=by
 unfold NI;rw [Na,Na,Qk (Ne.symm h)]
theorem Vu {o:AOp} (h:kind o=.s):WA o=true:=by
 cases o<;>(try (simp [kind] at h;done))<;>(try rfl)
 simp only [kind] at h
 split at h<;>cases h
theorem N06 {o:AOp} (h:WA o=true):kind o=.s/\makes o=false:=by
 cases o<;>simp [WA] at h
 exact ⟨rfl,rfl⟩
theorem N01 {o:AOp} (hk:kind o=.s) {lim d:Nat} {ρ:Operand->Value} {H H':NE} {v:Value} (h:NJ lim (some d) o ρ H=some (v,H')) :
  ∃b,H'=H.set d b/\∀e,NI e d=NI H d->NJ lim (some d) o ρ e=some (v,e.set d b):=by
 have hs:=Vu hk
 cases o<;>simp [WA] at hs
 rename_i n a x
 cases ha:ρ a with
 | pointer q=>
   cases q with
   | none=>simp [NJ,ha] at h
   | some p=>
     simp only [NJ,ha] at h⊢
     split at h
     case isFalse=>cases h
     rename_i hc
     simp only [Nc,Prod.mk.injEq] at h
     obtain ⟨K,h1,rfl,rfl⟩:=h
     unfold storeAt at h1
     rw [hc.1] at h1
     split at h1
     case h_2=>cases h1
     rename_i c f
     split at h1
     case isFalse=>cases h1
     rename_i hl
     cases h1
     refine ⟨_,rfl,fun e h2=>?_⟩
     rw [Ni hc]
     unfold storeAt
     rw [hc.1,h2,f]
     simp only
     rw [Ni hl]
     rfl
 | _=>simp [NJ,ha] at h
theorem WI {o:AOp} {lim:Nat} {dest:Option Nat} {ρ:Operand->Value} {H:NE} {r} (h:NJ lim dest o ρ H=some r):NJ lim dest (Z8 o) ρ H=some r:=by
 cases o<;>try exact h
 case loadO n x b=>
  simp only [NJ] at h
  split at h
  case h_2=>cases h
  rename_i p q c e
  split at h
  case isFalse=>cases h
  cases n with
  | none=>simp only [Z8,NJ,c];exact h
  | some k=>
    simp only [Z8,NJ,c]
    simp only [loadX,Option.map_map] at h
    exact h
 case storeO n a x b=>
  simp only [NJ] at h
  split at h
  case h_2=>cases h
  rename_i p q c e
  split at h
  case isFalse=>cases h
  rename_i hc
  simp only [Z8,NJ,c]
  rw [Ni hc.2]
  exact h
 case loadR n x=>
  cases c:ρ x with
  | pointer q=>
    cases q with
    | none=>simp [NJ,c] at h
    | some p=>
      simp only [NJ,c] at h
      split at h
      case isFalse=>cases h
      cases n with
      | none=>simp only [Z8,NJ,c];exact h
      | some k=>
        simp only [Z8,NJ,c]
        simp only [loadX,Option.map_map] at h
        exact h
  | _=>simp [NJ,c] at h
 case storeD n a x=>
  cases dest with
  | none=>simp [NJ] at h
  | some d=>
    cases c:ρ a with
    | pointer q=>
      cases q with
      | none=>simp [NJ,c] at h
      | some p=>
        simp only [NJ,c] at h
        split at h
        case isFalse=>cases h
        rename_i hc
        simp only [Z8,NJ,c]
        rw [Ni hc.2]
        exact h
    | _=>simp [NJ,c] at h
 case append0=>
  simp only [NJ] at h
  split at h
  ·rename_i hs;simp only [Z8,NJ,hs];exact h
  ·cases h
 case appendL=>
  simp only [NJ] at h
  split at h
  ·rename_i hs;simp only [Z8,NJ,hs];exact h
  ·rename_i hs
   split at h
   ·simp only [Z8,NJ,hs];exact h
   ·cases h
  ·cases h
theorem Ndn {o:AOp} (h:isL o=true):kind o=.w/\makes o=true/\isL (Z8 o)=false/\kind (Z8 o)=.w/\makes (Z8 o)=true:=by
 cases o<;>simp [isL] at h
 simp [Z8,kind,makes,isL]
theorem Nvc {o:AOp} (hL:isL o=true) {lim d:Nat} {ρ:Operand->Value} {H H':NE} {v:Value} (h:NJ lim (some d) o ρ H=some (v,H')) (j:Nat) (hj:j≠d):H'[j]? = H[j]?\/H'[j]? = some .dead:=by
 cases o<;>simp [isL] at hL
 have set:∀{H:NE} {i:Nat} {b:Blk},j≠i->(H.set i b)[j]? = H[j]?:=fun {H i b} h=>by rw [N7,Ng (Ne.symm h)]
 have dead:∀{H:NE} {i:Nat},(H.set i .dead)[j]? = H[j]?\/(H.set i .dead)[j]? = some .dead:=fun {H i}=>by
  by_cases e:i=j
  ·subst e
   rw [N7,Ni rfl]
   by_cases hi:i<H.length
   ·rw [Ni hi];exact .inr rfl
   ·rw [Ng hi,Nx (by omega)];exact .inl rfl
  ·exact .inl (set (Ne.symm e))
 simp only [NJ] at h
 split at h
 ·unfold PQ at h
  split at h
  case h_2=>cases h
  rename_i e1 e2 e3
  cases e1
  split at h
  ·cases h
  split at h
  ·cases h;exact .inl rfl
  simp only at h
  split at h
  ·cases h;exact .inl (set hj)
  ·cases h
 ·split at h
  case isFalse=>cases h
  rename_i hc
  unfold PQ at h
  split at h
  case h_2=>cases h
  rename_i e1 e2 e3
  cases e1
  split at h
  ·cases h
  split at h
  ·cases h;exact .inl rfl
  repeat' (split at h)
  all_goals first
   | (cases h;done)
   | contradiction
   | (cases h;exact .inl rfl)
   | (cases h;exact .inl (set hj))
   | (cases h;rename_i a;simp only [place,Prod.mk.injEq] at a;obtain ⟨_,rfl⟩:=a;rw [set hj];exact dead)
   | (cases h;rename_i a;simp only [place,Prod.mk.injEq] at a;obtain ⟨_,rfl⟩:=a;exact .inl (set hj))
   | (exfalso;omega)
 ·cases h
theorem N03 {o:AOp} (hk:kind o=.n) {lim d:Nat} {ρ:Operand->Value} {H H':NE} {v:Value} (h:NJ lim (some d) o ρ H=some (v,H')):H'=H\/∃b,H'=H.set d b:=by
 cases o<;>simp [kind] at hk<;>simp only [NJ] at h
 case append0=>
  split at h
  case h_2=>cases h
  unfold PQ at h
  split at h
  case h_2=>cases h
  rename_i e1 e2 e3
  cases e1
  split at h
  ·cases h
  split at h
  ·cases h;exact .inl rfl
  split at h
  ·split at h
   ·simp only [UV] at h;cases h;exact .inr ⟨_,rfl⟩
   ·cases h
  ·split at h
   ·cases h
   split at h
   ·rename_i q;exact absurd q (by unfold loose;omega)
   ·split at h
    ·split at h
     ·omega
     ·simp only [UV] at h;cases h;exact .inr ⟨_,rfl⟩
    ·cases h
 case call mp f args=>split at hk<;>cases hk
theorem Nws {o:AOp} {lim:Nat} {dest:Option Nat} {ρ ρ':Operand->Value} {H:NE} (h:∀x∈o.operands,ρ x=ρ' x):NJ lim dest o ρ H=NJ lim dest o ρ' H:=by
 have k:∀(ps:List (Nat×Nat×Operand)) (c:List Value),(∀x∈ps.map (·.2.2),ρ x=ρ' x)->Sc ρ ps c=Sc ρ' ps c:=by
  intro ps
  induction ps with
  | nil=>intro c _;rfl
  | cons p ps ih=>
    intro c hp
    obtain ⟨o,s,x⟩:=p
    simp only [Sc,hp x (by simp)]
    split
    ·exact ih _ fun y d=>hp y (by simp at d⊢;exact .inr d)
    ·rfl
 have j:∀(len cap:Nat) (lo hi mx:Option Operand),(∀x∈lo.toList++hi.toList++mx.toList,ρ x=ρ' x)->bounds ρ len cap lo hi mx=bounds ρ' len cap lo hi mx:=by
  intro len cap lo hi mx g
  cases lo<;>cases hi<;>cases mx<;>simp at g<;>unfold bounds<;>(try simp only [g])
 cases o<;>simp only [AOp.operands] at h<;>simp only [NJ]
 case build z ps=>rw [k ps z h]
 case buildSlice n z ps=>rw [k ps z h]
 case sliceS e x lo hi mx=>
  have i:=h x (by simp)
  have g:=fun len cap=>j len cap lo hi mx fun y d=>h y (Nk _ d)
  simp only [i,Un,g]
 case sliceA n e x lo hi mx=>
  have i:=h x (by simp)
  have g:=fun len cap=>j len cap lo hi mx fun y d=>h y (Nk _ d)
  simp only [i,g]
 case sliceStr x lo hi=>
  have i:=h x (by simp)
  have g:=fun len cap=>j len cap lo hi none fun y d=>h y (Nk _ (by simpa using d))
  simp only [i,g]
 case minmax mx xs=>
  cases xs with
  | nil=>rfl
  | cons x r=>simp only [h x (by simp),O8 fun y d=>h y (Nk _ d)]
 case makeMap hint=>
  cases hint with
  | none=>rfl
  | some x=>simp only [h x (by simp)]
 case makeFunc f a b=>
  rw [O8 fun y d=>h y (by simp [d]),O8 (l:=b) fun y d=>h y (by simp [d])]
 all_goals (first | rfl | (simp only [Nr,Oe,or_false,forall_eq_or_imp,forall_eq] at h;simp only [h]))
structure CallOk0 (C:Uc):Prop where
 pure:∀lim g as H v H',C true lim g as H=some (v,H')->H'=H
 len:∀mp lim g as H v H',C mp lim g as H=some (v,H')->lim<=H.length->H.length<=H'.length
 keep:∀mp lim g as H v H',C mp lim g as H=some (v,H')->lim<=H.length->∀j,j<lim->H'[j]? = H[j]?
theorem Ux {lim:Nat} {H H':NE} {a:Addr} {vs:List Value} (h:storeAt lim H a vs=some H'):H'.length=H.length:=by
 unfold storeAt at h
 split at h
 ·split at h
  ·cases h;simp
  ·cases h
 ·cases h
theorem Ncm {o:AOp} (hL:isL o=false) (hk:kind o=.w) {lim d:Nat} {ρ:Operand->Value} {H H':NE} {v:Value} (h:NJ lim (some d) o ρ H=some (v,H')):H'.length=H.length:=by
 cases o<;>simp [kind] at hk<;>simp only [NJ] at h
 case store=>
  split at h
  ·split at h
   ·simp only [Nc,Prod.mk.injEq] at h;obtain ⟨_,h1,_,rfl⟩:=h;exact Ux h1
   ·cases h
  ·cases h
 case storeO=>
  split at h
  ·split at h
   ·simp only [Nc,Prod.mk.injEq] at h;obtain ⟨_,h1,_,rfl⟩:=h;exact Ux h1
   ·cases h
  ·cases h
 case append=>
  unfold PQ at h
  split at h
  case h_2=>cases h
  split at h
  ·cases h
  split at h
  ·cases h;rfl
  split at h
  ·split at h
   ·simp only [UV] at h;cases h;simp
   ·cases h
  ·split at h
   ·cases h
   split at h
   ·split at h
    ·split at h
     ·simp only [UV] at h;cases h;simp
     ·cases h
    ·cases h
   ·split at h
    ·split at h
     ·split at h
      ·rename_i h1;cases h;exact Ux h1
      ·cases h
     ·simp only [UV] at h;cases h;simp
    ·cases h
 case copy=>
  split at h
  ·split at h
   ·split at h
    ·split at h
     ·cases h;rfl
     ·simp only [Nc,Prod.mk.injEq] at h;obtain ⟨_,h1,_,rfl⟩:=h;exact Ux h1
    ·split at h
     ·cases h;rfl
     ·cases h
   ·cases h
  ·cases h
 case mapUpdate=>
  split at h
  ·split at h
   ·split at h
    ·split at h<;>cases h<;>simp
    ·cases h
   ·cases h
  ·cases h
 case clear=>
  split at h
  ·split at h
   ·cases h;rfl
   ·simp only [Nc,Prod.mk.injEq] at h;obtain ⟨_,h1,_,rfl⟩:=h;exact Ux h1
  ·cases h
 case delete=>cases h
 case call=>split at hk<;>cases hk
 case appendL=>simp [isL] at hL
theorem XL {o:AOp} (hk:kind o=.w) {lim d:Nat} {ρ:Operand->Value} {H H':NE} {v:Value} (h:NJ lim (some d) o ρ H=some (v,H')):H'.length=H.length:=by
 cases hL:isL o with
 | false=>exact Ncm hL hk h
 | true=>obtain ⟨_,_,h1,h2,_⟩:=Ndn hL;exact Ncm h1 h2 (WI h)
structure Planned (x:AIns):Prop where
 bare:kind x.op=.p\/kind x.op=.a\/kind x.op=.s->x.mask=[]
 dest:makes x.op=true->∃r,x.dest=some r
 home:WA x.op=true->∃r,x.dest=some r
theorem Zo {o:AOp} (h:kind o=.a):makes o=true:=by cases o<;>simp_all [makes,kind]
theorem YD {o:AOp} (hk:kind o=.w) (a:makes o=false) {lim:Nat} {dest:Option Nat} {ρ:Operand->Value} {H H':NE} {v:Value} (h:NJ lim dest o ρ H=some (v,H')):H'.length=H.length:=by
 have key:NJ lim dest o ρ H=NJ lim (some 0) o ρ H:=by
  cases o<;>simp [kind] at hk<;>simp [makes] at a<;>rfl
 rw [key] at h
 exact XL hk h
section
variable {C:Uc} {N lim base:Nat}
def PM (C:Uc) (lim base:Nat) (i:AIns) (ρ:Operand->Value) (H:NE):Option (Value×NE):=
 match RB C lim (i.dest.map (base+·)) i.op ρ (OD base i.mask H) with
 | some (v,H')=>some (v,NZ base i.mask H H')
 | none=>none
theorem SH {i:AIns} {fr:Nat->Value} {H:NE}:Tc C N lim (some base) i fr H =
  match RX N fr i.guard with
  | none=>none
  | some false=>some (undef,H)
  | some true=>PM C lim base i (ev fr) H:=rfl
theorem OT {o:AOp} (h:∀mp f args,o≠.call mp f args) (dest:Option Nat) (ρ:Operand->Value) (H:NE):RB C lim dest o ρ H=NJ lim dest o ρ H:=by
 cases o<;>first | rfl | (exact absurd rfl (h _ _ _))
theorem Nu7 {o:AOp} (h:∃mp f args,o=.call mp f args):kind o=.r\/kind o=.c:=by
 obtain ⟨mp,f,args,rfl⟩:=h
 cases mp<;>simp [kind,CM.isPure]
theorem Y7 {o:AOp} (h:kind o=.p\/kind o=.a\/kind o=.w):∀mp f args,o≠.call mp f args:=fun mp f args e=>by
 rcases Nu7 ⟨mp,f,args,e⟩ with h' | h'<;>rw [h'] at h<;>simp at h
theorem N2j {i:AIns} (hp:Planned i) (hk:kind i.op=.p) (ρ:Operand->Value) (H:NE):PM C lim base i ρ H=((NJ lim (i.dest.map (base+·)) i.op ρ []).map (·.1)).map (·,H):=by
 unfold PM
 rw [hp.bare (.inl hk),OT (Y7 (.inl hk))]
 simp only [OD,NZ,List.foldl_nil]
 rw [Ndm hk]
 cases (Option.map (fun x=>x.1) (NJ lim (Option.map (fun x=>base+x) i.dest) i.op ρ []))<;>rfl
theorem Ya (b:CallOk0 C) {i:AIns} (hk:kind i.op=.r) {ρ:Operand->Value} {H H':NE} {v:Value} (h:PM C lim base i ρ H=some (v,H')):H'=H:=by
 unfold PM at h
 split at h
 case h_2=>cases h
 rename_i c H1 h1
 cases h
 have:H1=OD base i.mask H:=by
  by_cases hc:∃mp f args,i.op=.call mp f args
  ·obtain ⟨mp,f,args,hc⟩:=hc
   rw [hc] at h1 hk
   have a:mp=.pure:=by cases mp<;>simp [kind,CM.isPure] at hk⊢
   subst a
   simp only [RB] at h1
   split at h1
   ·exact b.pure _ _ _ _ _ _ (Td h1).1
   ·cases h1
  ·rw [OT (fun mp f args e=>hc ⟨mp,f,args,e⟩)] at h1
   exact YE hk (fun mp f args e=>hc ⟨mp,f,args,e⟩) h1
 rw [this,Tj]
theorem Nf5 {i:AIns} (hp:Planned i) (hk:kind i.op=.a) {r:Nat} (hr:i.dest=some r) {ρ:Operand->Value} {H H':NE} {v:Value} (h:PM C lim base i ρ H=some (v,H')) :
  ∃b,H'=H.set (base+r) b/\∀c,PM C lim base i ρ c=some (v,c.set (base+r) b):=by
 unfold PM at h⊢
 rw [hp.bare (.inr (.inl hk)),OT (Y7 (.inr (.inl hk))),hr] at h
 simp only [OD,NZ,List.foldl_nil,Nu] at h
 split at h
 case h_2=>cases h
 rename_i d H1 h1
 cases h
 obtain ⟨b,e1,e2⟩:=N04 hk h1
 refine ⟨b,e1,fun c=>?_⟩
 rw [hp.bare (.inr (.inl hk)),OT (Y7 (.inr (.inl hk))),hr]
 simp only [OD,NZ,List.foldl_nil,Nu,e2]
theorem Nq7 {i:AIns} (hp:Planned i) (hk:kind i.op=.s) {r:Nat} (hr:i.dest=some r) {ρ:Operand->Value} {H H':NE} {v:Value} (h:PM C lim base i ρ H=some (v,H')) :
  ∃b,H'=H.set (base+r) b/\∀a,NI a (base+r)=NI H (base+r)->PM C lim base i ρ a=some (v,a.set (base+r) b):=by
 have c:∀mp f args,i.op≠.call mp f args:=fun mp f args e=>by have:=Vu hk;rw [e] at this;simp [WA] at this
 unfold PM at h⊢
 rw [hp.bare (.inr (.inr hk)),OT c,hr] at h
 simp only [OD,NZ,List.foldl_nil,Nu] at h
 split at h
 case h_2=>cases h
 rename_i d H1 h1
 cases h
 obtain ⟨b,e1,e2⟩:=N01 hk h1
 refine ⟨b,e1,fun a h2=>?_⟩
 rw [hp.bare (.inr (.inr hk)),OT c,hr]
 simp only [OD,NZ,List.foldl_nil,Nu,e2 a h2]
theorem Np7 {o:AOp} (hk:kind o=.n) {lim d:Nat} {ρ:Operand->Value} {H H':NE} {v:Value} (h:NJ lim (some d) o ρ H=some (v,H')):H'.length=H.length:=by
 rcases N03 hk h with rfl | ⟨b,rfl⟩
 ·rfl
 ·simp
theorem Nr9 {o:AOp} (h:kind o=.n):makes o=true:=by
 cases o<;>(try (simp_all [makes,kind];done))
 rename_i mp f args
 cases mp<;>simp [kind,CM.isPure] at h
theorem Nc2 (base:Nat) (l:List Nat) (H:NE) (d:Nat) (b:Blk):NZ base l H ((OD base l H).set d b)=H\/NZ base l H ((OD base l H).set d b)=H.set d b:=by
 by_cases hd:∃i∈l,base+i=d
 ·left
  apply List.ext_getElem?
  intro j
  by_cases hj:j<H.length
  ·by_cases hl:∃i∈l,base+i=j
   ·rw [Sj base H l _ hl (by simp [OW];exact hj),Nac hj]
   ·have a:∀i∈l,base+i≠j:=fun i hi e=>hl ⟨i,hi,e⟩
    rw [R8 base H l _ a,N7,Ng (fun e=>hl (by rw [<-e];exact hd)),QY base l _ a]
  ·rw [Nx (by rw [PH];simp [OW];omega),Nx (by omega)]
 ·right
  apply List.ext_getElem?
  intro j
  by_cases hj:j<H.length
  ·by_cases hl:∃i∈l,base+i=j
   ·rw [Sj base H l _ hl (by simp [OW];exact hj),N7,Ng (fun e=>hd (by rw [e];exact hl)),Nac hj]
   ·have a:∀i∈l,base+i≠j:=fun i hi e=>hl ⟨i,hi,e⟩
    rw [R8 base H l _ a,N7,N7,OW,QY base l _ a]
  ·rw [Nx (by rw [PH];simp [OW];omega),Nx (by simp;omega)]
theorem N2k {i:AIns} (hp:Planned i) (hk:kind i.op=.n) {ρ:Operand->Value} {H H':NE} {v:Value} (h:PM C lim base i ρ H=some (v,H')) :
  ∃r,i.dest=some r/\(H'=H\/∃b,H'=H.set (base+r) b):=by
 obtain ⟨r,hr⟩:=hp.dest (Nr9 hk)
 refine ⟨r,hr, ?_⟩
 unfold PM at h
 have a:∀mp f args,i.op≠.call mp f args:=fun mp f args e=>by rw [e] at hk;cases mp<;>simp [kind,CM.isPure] at hk
 rw [OT a,hr] at h
 simp only [Nu] at h
 split at h
 case h_2=>cases h
 rename_i c H1 h1
 cases h
 rcases N03 hk h1 with rfl | ⟨b,rfl⟩
 ·rw [Tj];exact .inl rfl
 ·rcases Nc2 base i.mask H (base+r) b with e | e
  ·exact .inl e
  ·exact .inr ⟨b,e⟩
theorem N8f {o:AOp} (h:kind o=.c):∃mp f args,o=.call mp f args:=by
 cases o<;>simp [kind] at h
 exact ⟨_,_,_,rfl⟩
theorem Nkx (o:CallOk0 C) {i:AIns} (hp:Planned i) {ρ:Operand->Value} {A X:NE} {v:Value} (hl:lim<=A.length) (hs:RB C lim (i.dest.map (base+·)) i.op ρ A=some (v,X)):A.length<=X.length/\(kind i.op≠.c->X.length=A.length):=by
 by_cases hc:∃mp f args,i.op=.call mp f args
 ·obtain ⟨mp,f,args,hc⟩:=hc
  rw [hc] at hs
  simp only [RB] at hs
  split at hs
  case h_2=>cases hs
  have j:=(Td hs).1
  have k:mp.lim lim A<=A.length:=by cases mp<;>simp [CM.lim,hl]
  refine ⟨o.len _ _ _ _ _ _ _ j k,fun hk=>?_⟩
  rw [hc] at hk
  have l:mp=.pure:=by cases mp<;>simp [kind,CM.isPure] at hk⊢
  subst l
  rw [o.pure _ _ _ _ _ _ j]
 ·have g:∀mp f args,i.op≠.call mp f args:=fun mp f args e=>hc ⟨mp,f,args,e⟩
  rw [OT g] at hs
  have:X.length=A.length:=by
   cases hk:kind i.op with
   | p=>rw [Ndm hk] at hs;simp only [Nc,Prod.mk.injEq] at hs;obtain ⟨_,_,_,h⟩:=hs;rw [h]
   | r=>rw [YE hk g hs]
   | a=>
     obtain ⟨m,d⟩:=hp.dest (Zo hk)
     rw [d] at hs
     obtain ⟨b,e1,_⟩:=N04 hk hs
     rw [e1];simp
   | w=>
     cases hm:makes i.op with
     | true=>
       obtain ⟨m,d⟩:=hp.dest hm
       rw [d] at hs
       exact XL hk hs
     | false=>exact YD hk hm hs
   | n=>
     obtain ⟨m,d⟩:=hp.dest (Nr9 hk)
     rw [d] at hs
     exact Np7 hk hs
   | c=>exact absurd (N8f hk) (fun ⟨_,_,_,e⟩=>g _ _ _ e)
   | s=>
     obtain ⟨m,d⟩:=hp.home (Vu hk)
     rw [d] at hs
     obtain ⟨b,e1,_⟩:=N01 hk hs
     rw [e1];simp
  exact ⟨by omega,fun _=>this⟩
theorem Xw (a:CallOk0 C) {i:AIns} (hp:Planned i) {ρ:Operand->Value} {H H':NE} {v:Value} (hl:lim<=H.length) (h:PM C lim base i ρ H=some (v,H')):H.length<=H'.length:=by
 unfold PM at h
 split at h
 case h_2=>cases h
 rename_i b X h1
 cases h
 have:=(Nkx a hp (by rw [OW];exact hl) h1).1
 rw [OW] at this
 rw [PH];exact this
theorem U3 (d:CallOk0 C) {i:AIns} (hp:Planned i) {r:Nat} (hr:r∈i.mask) (ρ:Operand->Value) (H:NE) (b:Blk) (hl:lim<=H.length) (a:base+r<H.length) :
  PM C lim base i ρ (H.set (base+r) b)=(PM C lim base i ρ H).map fun p=>(p.1,p.2.set (base+r) b):=by
 unfold PM
 rw [Nzz base i.mask H hr b]
 cases hs:RB C lim (i.dest.map (base+·)) i.op ρ (OD base i.mask H) with
 | none=>rfl
 | some p=>
   obtain ⟨v,X⟩:=p
   simp only [Nu]
   have c:=(Nkx d hp (by rw [OW];exact hl) hs).1
   rw [OW] at c
   rw [Nko base i.mask H X hr b a c]
theorem Nf4 (b:CallOk0 C) {i:AIns} (hp:Planned i) {r:Nat} (hr:r∈i.mask) {ρ:Operand->Value} {H H':NE} {v:Value} (hl:lim<=H.length) (c:base+r<H.length) (h:PM C lim base i ρ H=some (v,H')):NI H' (base+r)=NI H (base+r):=by
 have a:=Xw b hp hl h
 unfold PM at h
 split at h
 case h_2=>cases h
 rename_i d X h1
 cases h
 rw [PH] at a
 have:=Sj base H i.mask X ⟨r,hr,rfl⟩ (by omega)
 unfold NI
 rw [Na,this]
 rfl
structure Sep (x y:AIns):Prop where
 apart:Nb2 x y=true
 calm:AM.calm x.op y.op=true
 maskY:(kind y.op=.r\/kind y.op=.w\/kind y.op=.n\/kind y.op=.c)->∀r,x.dest=some r->r∈y.mask
 maskX:(kind x.op=.r\/kind x.op=.w\/kind x.op=.n\/kind x.op=.c)->∀r,y.dest=some r->r∈x.mask
 dests:∀r,x.dest=some r->y.dest≠some r
theorem Nz3 {i:AIns} {t:Nat} (h:Operand.tmp t∈i.op.operands):t∈i.looks:=by
 unfold AIns.looks
 exact Ow _ (List.mem_filterMap.2 ⟨.tmp t,h,rfl⟩)
theorem Nmf {i:AIns} {t:Nat} {b:Bool} (h:i.guard=some (t,b)):t∈i.looks:=by
 unfold AIns.looks
 rw [h]
 exact P4 _ (by simp)
theorem MH {o:AOp} {dest:Option Nat} {ρ ρ':Operand->Value} {H:NE} (h:∀x∈o.operands,ρ x=ρ' x):RB C lim dest o ρ H=RB C lim dest o ρ' H:=by
 by_cases hc:∃mp f args,o=.call mp f args
 ·obtain ⟨mp,f,args,rfl⟩:=hc
  simp only [AOp.operands] at h
  simp only [RB,h f (by simp),O8 fun y b=>h y (Nk _ b)]
 ·have a:∀mp f args,o≠.call mp f args:=fun mp f args e=>hc ⟨mp,f,args,e⟩
  rw [OT a,OT a]
  exact Nws h
theorem Nqc {b:Option Nat} {i:AIns} {fr:Nat->Value} {H:NE} {d:Nat} {v:Value} (h:d∉i.looks):Tc C N lim b i (upd fr d v) H=Tc C N lim b i fr H:=by
 have a:RX N (upd fr d v) i.guard=RX N fr i.guard:=by
  cases hg:i.guard with
  | none=>rfl
  | some g=>
    obtain ⟨t,b⟩:=g
    have:t≠d:=fun e=>h (e▸Nmf hg)
    simp [RX,upd,this]
 have he:∀x∈i.op.operands,ev (upd fr d v) x=ev fr x:=fun x c=>by
  cases x with
  | tmp t=>
    have:t≠d:=fun e=>h (e▸Nz3 c)
    simp [ev,upd,this]
  | _=>rfl
 unfold Tc
 rw [a]
 cases b with
 | none=>simp only [MH (C:=C) (lim:=lim) he]
 | some b=>simp only [MH (C:=C) (lim:=lim) he]
theorem Nfb {b:Option Nat} {i:AIns} {fr fr':Nat->Value} {H:NE} {dst:Option Nat} {v:Value} (hp:Y1 N fr dst v=some fr') (h:∀d,dst=some d->d∉i.looks):Tc C N lim b i fr' H=Tc C N lim b i fr H:=by
 cases dst with
 | none=>cases hp;rfl
 | some d=>
   simp only [Y1] at hp
   split at hp
   ·cases hp;exact Nqc (h d rfl)
   ·cases hp
theorem put_comm {fr fr1 fr2:Nat->Value} {x y:Option Nat} {v u:Value} (h1:Y1 N fr x v=some fr1) (h2:Y1 N fr1 y u=some fr2) (c:∀d,x=some d->y≠some d) :
  ∃a,Y1 N fr y u=some a/\Y1 N a x v=some fr2:=by
 cases x with
 | none=>cases h1;exact ⟨fr2,h2,rfl⟩
 | some d=>
   cases y with
   | none=>cases h2;exact ⟨fr,rfl,h1⟩
   | some e=>
     simp only [Y1] at h1 h2
     split at h1
     case isFalse=>cases h1
     rename_i hd
     split at h2
     case isFalse=>cases h2
     rename_i he
     cases h1;cases h2
     refine ⟨upd fr e u,by simp [Y1,he], ?_⟩
     have b:d≠e:=fun h=>c d rfl (by rw [h])
     simp only [Y1,hd,if_true,Option.some.injEq]
     funext t
     simp only [upd]
     by_cases h1:t=d
     ·subst h1;simp [b]
     ·simp [h1]
theorem WB {H:NE} {i:Nat} {b:Blk} (h:NI H i=b) (a:b≠.dead):H[i]? = some b:=by
 unfold NI at h
 rw [Na] at h
 cases hi:H[i]? with
 | none=>rw [hi] at h;simp at h;exact absurd h.symm a
 | some x=>rw [hi] at h;simp at h;rw [h]
theorem Ntp {o:AOp} (hr:isRead o=true) {lim:Nat} {dest:Option Nat} {ρ:Operand->Value} {H c:NE} {v:Value} (hk:∀(j:Nat) b,H[j]? = some b->c[j]? = some b) (h:NJ lim dest o ρ H=some (v,H)):NJ lim dest o ρ c=some (v,c):=by
 have f:∀{j:Nat} {b:Blk},b≠.dead->NI H j=b->NI c j=b:=fun {j b} d h=>by
  have:=hk j _ (WB h d)
  unfold NI;rw [Na,this];rfl
 have h1:∀{p:Addr} {z:Value},AM.loadCell H p=some z->AM.loadCell c p=some z:=fun {p z} a=>by
  unfold AM.loadCell at a⊢
  split at a
  ·rename_i d;rw [f (by intro e;cases e) d];exact a
  ·cases a
 have i:∀{p:Addr} {n:Nat} {z:List Value},AM.loadCells H p n=some z->AM.loadCells c p n=some z:=fun {p n z} a=>by
  unfold AM.loadCells at a⊢
  split at a
  ·rename_i d;rw [f (by intro e;cases e) d];exact a
  ·cases a
 have g:∀{m:Value} {es:List (Value×Value)},mapEntries H m=some es->mapEntries c m=some es:=fun {m es} a=>by
  unfold mapEntries at a⊢
  split at a
  ·exact a
  ·split at a
   ·rename_i d;rw [f (by intro e;cases e) d];exact a
   ·cases a
  ·cases a
 cases o<;>simp [isRead] at hr<;>simp only [NJ] at h⊢
 case load1=>
  split at h
  ·simp only [Nc,Prod.mk.injEq] at h
   obtain ⟨z,a,rfl,_⟩:=h
   rw [h1 a];rfl
  ·cases h
 case loadN=>
  split at h
  ·simp only [Nc,Prod.mk.injEq] at h
   obtain ⟨z,a,rfl,_⟩:=h
   rw [i a];rfl
  ·cases h
 case lenMap=>
  simp only [Nc,Prod.mk.injEq] at h
  obtain ⟨z,a,rfl,_⟩:=h
  rw [g a];rfl
 case lookup=>
  split at h
  ·rename_i a
   rw [g a]
   simp only
   split at h
   ·rename_i hc
    rw [Ni hc]
    split at h<;>cases h<;>rfl
   ·cases h
  ·cases h
 case b2s=>
  split at h
  ·split at h
   ·rename_i hc;cases h;rw [Ni hc]
   ·cases h
  ·split at h
   ·rename_i a
    rw [i a]
    simp only
    split at h
    ·cases h;rfl
    ·cases h
   ·cases h
  ·cases h
theorem Npy {o:AOp} (hr:isLoad o=true) {lim:Nat} {dest:Option Nat} {ρ:Operand->Value} {A B:NE} {v:Value} (d:∀{j:Nat} {ro:Bool} {c:List Value},NI A j=.cells ro c->NI B j=.cells ro c) (h:NJ lim dest o ρ A=some (v,A)):NJ lim dest o ρ B=some (v,B):=by
 cases o<;>simp [isLoad] at hr<;>simp only [NJ] at h⊢
 case load1=>
  split at h
  ·rename_i p hp
   simp only [Nc,Prod.mk.injEq] at h
   obtain ⟨z,a,rfl,_⟩:=h
   have:AM.loadCell B p=some z:=by
    unfold AM.loadCell at a⊢
    split at a
    ·rename_i b;rw [d b];exact a
    ·cases a
   rw [this];rfl
  ·cases h
 case loadN e f=>
  split at h
  ·rename_i p hp
   simp only [Nc,Prod.mk.injEq] at h
   obtain ⟨z,a,rfl,_⟩:=h
   have:AM.loadCells B p e=some z:=by
    unfold AM.loadCells at a⊢
    split at a
    ·rename_i b;rw [d b];exact a
    ·cases a
   rw [this];rfl
  ·cases h
theorem Np1 {o:AOp} (hr:Zt o=true) {lim:Nat} {dest:Option Nat} {ρ:Operand->Value} {A B:NE} {v:Value} (c:∀{j:Nat},TM (NI A j)=true->NI B j=NI A j) (h:NJ lim dest o ρ A=some (v,A)):NJ lim dest o ρ B=some (v,B):=by
 cases o<;>simp [Zt] at hr
 rename_i n d
 simp only [NJ] at h⊢
 split at h
 ·rename_i p hp
  split at h
  case isFalse=>cases h
  rename_i a
  have e:=c a
  simp only [Nc,Prod.mk.injEq] at h
  obtain ⟨z,b,rfl,_⟩:=h
  have:AM.loadX n B p=some z:=by
   unfold AM.loadX AM.loadCell AM.loadCells at b⊢
   rw [e];exact b
  rw [e,Ni a,this];rfl
 ·cases h
theorem N07 {a b:AOp} (h:isO a b=true):∃n x t m p y,a=.loadO n x (.tmp t)/\b=.storeO m p y (.tmp t):=by
 unfold isO at h
 split at h
 ·rename_i n x s m p y t
  rw [beq_iff_eq] at h
  subst h
  exact ⟨_,_,_,_,_,_,rfl,rfl⟩
 ·cases h
theorem Np2 {n:Option Nat} {x b:Operand} {lim:Nat} {dest:Option Nat} {ρ:Operand->Value} {A B:NE} {v:Value} (f:∀q,ρ b=.pointer (some q)->∀{j:Nat} {ro:Bool} {c:List Value},j≠q.block->NI A j=.cells ro c->NI B j=.cells ro c) (h:NJ lim dest (.loadO n x b) ρ A=some (v,A)):NJ lim dest (.loadO n x b) ρ B=some (v,B):=by
 simp only [NJ] at h⊢
 split at h
 case h_2=>cases h
 rename_i p q hp g
 split at h
 case isFalse=>cases h
 rename_i a
 simp only [Nc,Prod.mk.injEq] at h
 obtain ⟨z,d,rfl,_⟩:=h
 have:AM.loadX n B p=some z:=by
  unfold AM.loadX AM.loadCell AM.loadCells at d⊢
  cases hc:NI A p.block with
  | cells ro c=>
    have e:=f q g a hc
    rw [hc] at d
    rw [e];exact d
  | _=>rw [hc] at d;cases n<;>simp at d
 rw [Ni a,this];rfl
theorem Nku {m:Nat} {p y b:Operand} {lim:Nat} {dest:Option Nat} {ρ:Operand->Value} {A B:NE} {v:Value} (h:NJ lim dest (.storeO m p y b) ρ A=some (v,B)):∀q,ρ b=.pointer (some q)->∀{j:Nat},j≠q.block->NI B j=NI A j:=by
 intro q d j hj
 simp only [NJ] at h
 split at h
 case h_2=>cases h
 rename_i a g f c
 rw [d] at c
 cases c
 split at h
 case isFalse=>cases h
 rename_i hc
 simp only [Nc,Prod.mk.injEq] at h
 obtain ⟨e,hs,_,rfl⟩:=h
 unfold storeAt at hs
 split at hs
 ·split at hs
  ·cases hs
   exact Xp (by rw [hc.1];exact hj)
  ·cases hs
 ·cases hs
theorem Ns7 (W:CallOk0 C) {x y:AIns} (hx:Planned x) (X:Planned y) (hs:Sep x y) {fr:Nat->Value} {H H1 I:NE} {v u:Value} (hl:lim<=H.length) (aa:∀r,x.dest=some r\/y.dest=some r->base+r<H.length) (h1:Tc C N lim (some base) x fr H=some (v,H1)) (h2:Tc C N lim (some base) y fr H1=some (u,I)) :
  ∃R,Tc C N lim (some base) y fr H=some (u,R)/\Tc C N lim (some base) x fr R=some (v,I):=by
 rw [SH] at h1 h2
 cases gx:RX N fr x.guard with
 | none=>rw [gx] at h1;cases h1
 | some wx=>
 cases gy:RX N fr y.guard with
 | none=>rw [gy] at h2;cases h2
 | some wy=>
 rw [gx] at h1
 rw [gy] at h2
 cases wx with
 | false=>cases h1;exact ⟨I,by rw [SH,gy];exact h2,by rw [SH,gx]⟩
 | true=>
 cases wy with
 | false=>cases h2;exact ⟨H,by rw [SH,gy],by rw [SH,gx];exact h1⟩
 | true=>
 simp only at h1 h2
 suffices hh:∃R,PM C lim base y (ev fr) H=some (u,R)/\PM C lim base x (ev fr) R=some (v,I) by
  obtain ⟨R,e1,e2⟩:=hh
  exact ⟨R,by rw [SH,gy];exact e1,by rw [SH,gx];exact e2⟩
 have aj:∀{i:AIns} (hp:Planned i) (hk:kind i.op=.p) {A B:NE} {z:Value},PM C lim base i (ev fr) A=some (z,B)->B=A/\∀D,PM C lim base i (ev fr) D=some (z,D):=by
  intro i hp hk A B z h
  rw [N2j hp hk] at h
  cases hg:(NJ lim (i.dest.map (base+·)) i.op (ev fr) []).map (·.1) with
  | none=>rw [hg] at h;cases h
  | some c=>rw [hg] at h;cases h;exact ⟨rfl,fun D=>by rw [N2j hp hk,hg];rfl⟩
 by_cases az:kind x.op=.p
 ·obtain ⟨rfl,o⟩:=aj hx az h1
  exact ⟨I,h2,o I⟩
 by_cases a1:kind y.op=.p
 ·obtain ⟨rfl,o⟩:=aj X a1 h2
  exact ⟨H,o H,h1⟩
 have E:((((conflict (kind x.op) (kind y.op)=false\/(isL x.op=true/\isLoad y.op=true))\/(isRead x.op=true/\N4q y.op=true))\/(isLoad x.op=true/\isMaps y.op=true))\/(Zt x.op=true/\isRecs y.op=true))\/isO x.op y.op=true:=by
  have:=hs.calm
  simpa [AM.calm] using this
 rcases E with E | hO
 case inr=>
  obtain ⟨n,ox,t,m,op,oy,ex,ey⟩:=N07 hO
  have Z:kind x.op=.r:=by rw [ex];rfl
  have ky:kind y.op=.w:=by rw [ey];rfl
  have V:∀mp f args,x.op≠.call mp f args:=fun mp f args e=>by rw [ex] at e;cases e
  have ax:∀mp f args,y.op≠.call mp f args:=fun mp f args e=>by rw [ey] at e;cases e
  have e1:=Ya W Z h1
  subst e1
  refine ⟨I,h2, ?_⟩
  have O:∀q,ev fr (.tmp t)=.pointer (some q)->∀{j:Nat} {ro:Bool} {c:List Value},j≠q.block->NI H1 j=.cells ro c->NI I j=.cells ro c:=fun q hq {j ro c} ao hj=>by
   have P:j<H1.length:=(List.getElem?_eq_some_iff.1 (WB hj (by intro e;cases e))).1
   have S:H1.length<=I.length:=Xw W X hl h2
   unfold PM at h2
   rw [OT ax] at h2
   split at h2
   case h_2=>cases h2
   rename_i v1 T g
   simp only [Option.some.injEq,Prod.mk.injEq] at h2
   obtain ⟨rfl,rfl⟩:=h2
   rw [PH] at S
   by_cases F:∃i∈y.mask,base+i=j
   ·have:=Sj base H1 y.mask T F (by omega)
    unfold NI
    rw [Na,this]
    exact hj
   ·have l:∀i∈y.mask,base+i≠j:=fun i hi e=>F ⟨i,hi,e⟩
    rw [ey] at g
    have hk:=Nku g q hq ao
    have e2:NI (OD base y.mask H1) j=NI H1 j:=by
     unfold NI;rw [Na,QY base y.mask _ l,<-Na]
    rw [e2,hj] at hk
    unfold NI at hk⊢
    rw [Na,R8 base H1 y.mask T l,<-Na]
    exact hk
  have F:∀q,ev fr (.tmp t)=.pointer (some q)->∀{j:Nat} {ro:Bool} {c:List Value},j≠q.block->NI (OD base x.mask H1) j=.cells ro c->NI (OD base x.mask I) j=.cells ro c:=fun q hq {j ro c} ao hj=>by
   have P:j<H1.length:=by
    have:=(List.getElem?_eq_some_iff.1 (WB hj (by intro e;cases e))).1
    rwa [OW] at this
   by_cases g:∃i∈x.mask,base+i=j
   ·have:=Vl base x.mask _ g P
    unfold NI at hj
    rw [Na,this] at hj
    cases hj
   ·have l:∀i∈x.mask,base+i≠j:=fun i hi e=>g ⟨i,hi,e⟩
    have e1:NI (OD base x.mask H1) j=NI H1 j:=by
     unfold NI;rw [Na,QY base x.mask _ l,<-Na]
    have e2:NI (OD base x.mask I) j=NI I j:=by
     unfold NI;rw [Na,QY base x.mask _ l,<-Na]
    rw [e1] at hj
    rw [e2]
    exact O q hq ao hj
  unfold PM at h1⊢
  rw [OT V] at h1⊢
  split at h1
  case h_2=>cases h1
  rename_i v1 T g
  simp only [Option.some.injEq,Prod.mk.injEq] at h1
  obtain ⟨rfl,_⟩:=h1
  have:=YE Z V g
  subst this
  rw [ex] at g⊢
  rw [Np2 F g]
  simp only [Tj]
 rcases E with E | ⟨J,U⟩
 case inr=>
  have Z:kind x.op=.r:=by cases hx:x.op<;>rw [hx] at J<;>simp [Zt] at J<;>rfl
  have V:∀mp f args,x.op≠.call mp f args:=fun mp f args e=>by rw [e] at J;simp [Zt] at J
  have e1:=Ya W Z h1
  subst e1
  refine ⟨I,h2, ?_⟩
  have S:H1.length<=I.length:=Xw W X hl h2
  have O:∀{j:Nat},TM (NI H1 j)=true->NI I j=NI H1 j:=fun {j} hj=>by
   obtain ⟨ro,c,ac⟩:=UD hj
   have P:j<H1.length:=(List.getElem?_eq_some_iff.1 (WB ac (by intro e;cases e))).1
   unfold PM at h2
   split at h2
   case h_2=>cases h2
   rename_i v1 T g
   simp only [Option.some.injEq,Prod.mk.injEq] at h2
   obtain ⟨rfl,rfl⟩:=h2
   rw [PH] at S
   by_cases F:∃i∈y.mask,base+i=j
   ·have:=Sj base H1 y.mask T F (by omega)
    unfold NI
    rw [Na,this]
    rfl
   ·have l:∀i∈y.mask,base+i≠j:=fun i hi e=>F ⟨i,hi,e⟩
    have al:NI (OD base y.mask H1) j=NI H1 j:=by
     unfold NI
     rw [Na,QY base y.mask _ l,<-Na]
    have an:Xf (OD base y.mask H1) T=true:=by
     cases hyo:y.op<;>rw [hyo] at U g<;>simp [isRecs] at U
     rename_i mp f args
     cases mp<;>simp at U
     simp only [RB] at g
     split at g
     case h_2=>cases g
     exact Nbx g
    have:=Ni4 an (by rw [al];exact hj)
    rw [al] at this
    unfold NI at this⊢
    rw [Na,R8 base H1 y.mask T l,<-Na]
    exact this
  have F:∀{j:Nat},TM (NI (OD base x.mask H1) j)=true->NI (OD base x.mask I) j=NI (OD base x.mask H1) j:=fun {j} hj=>by
   obtain ⟨ro,c,ac⟩:=UD hj
   have P:j<H1.length:=by
    have:=(List.getElem?_eq_some_iff.1 (WB ac (by intro e;cases e))).1
    rwa [OW] at this
   by_cases g:∃i∈x.mask,base+i=j
   ·have:=Vl base x.mask _ g P
    unfold NI at ac
    rw [Na,this] at ac
    cases ac
   ·have l:∀i∈x.mask,base+i≠j:=fun i hi e=>g ⟨i,hi,e⟩
    have e1:NI (OD base x.mask H1) j=NI H1 j:=by
     unfold NI;rw [Na,QY base x.mask _ l,<-Na]
    have e2:NI (OD base x.mask I) j=NI I j:=by
     unfold NI;rw [Na,QY base x.mask _ l,<-Na]
    rw [e1] at hj
    rw [e1,e2]
    exact O hj
  unfold PM at h1⊢
  rw [OT V] at h1⊢
  split at h1
  case h_2=>cases h1
  rename_i v1 T g
  simp only [Option.some.injEq,Prod.mk.injEq] at h1
  obtain ⟨rfl,_⟩:=h1
  have:=YE Z V g
  subst this
  rw [Np1 J F g]
  simp only [Tj]
 rcases E with E | ⟨J,U⟩
 case inr=>
  have Z:kind x.op=.r:=by cases hx:x.op<;>rw [hx] at J<;>simp [isLoad] at J<;>rfl
  have V:∀mp f args,x.op≠.call mp f args:=fun mp f args e=>by rw [e] at J;simp [isLoad] at J
  have e1:=Ya W Z h1
  subst e1
  refine ⟨I,h2, ?_⟩
  have S:H1.length<=I.length:=Xw W X hl h2
  have O:∀{j:Nat} {ro:Bool} {c:List Value},NI H1 j=.cells ro c->NI I j=.cells ro c:=fun {j ro c} hj=>by
   have P:j<H1.length:=(List.getElem?_eq_some_iff.1 (WB hj (by intro e;cases e))).1
   unfold PM at h2
   split at h2
   case h_2=>cases h2
   rename_i v1 T g
   simp only [Option.some.injEq,Prod.mk.injEq] at h2
   obtain ⟨rfl,rfl⟩:=h2
   rw [PH] at S
   by_cases F:∃i∈y.mask,base+i=j
   ·have:=Sj base H1 y.mask T F (by omega)
    unfold NI
    rw [Na,this]
    exact hj
   ·have l:∀i∈y.mask,base+i≠j:=fun i hi e=>F ⟨i,hi,e⟩
    have al:NI (OD base y.mask H1) j=.cells ro c:=by
     unfold NI
     rw [Na,QY base y.mask _ l,<-Na]
     exact hj
    have an:VU (OD base y.mask H1) T=true:=by
     cases hyo:y.op<;>rw [hyo] at U g<;>simp [isMaps] at U
     rename_i mp f args
     cases mp<;>simp at U
     simp only [RB] at g
     split at g
     case h_2=>cases g
     exact (Td g).2 rfl
    have:=Ng1 an al
    unfold NI at this⊢
    rw [Na,R8 base H1 y.mask T l,<-Na]
    exact this
  have F:∀{j:Nat} {ro:Bool} {c:List Value},NI (OD base x.mask H1) j=.cells ro c->NI (OD base x.mask I) j=.cells ro c:=fun {j ro c} hj=>by
   have P:j<H1.length:=by
    have:=(List.getElem?_eq_some_iff.1 (WB hj (by intro e;cases e))).1
    rwa [OW] at this
   by_cases g:∃i∈x.mask,base+i=j
   ·have:=Vl base x.mask _ g P
    unfold NI at hj
    rw [Na,this] at hj
    cases hj
   ·have l:∀i∈x.mask,base+i≠j:=fun i hi e=>g ⟨i,hi,e⟩
    have e1:NI (OD base x.mask H1) j=NI H1 j:=by
     unfold NI;rw [Na,QY base x.mask _ l,<-Na]
    have e2:NI (OD base x.mask I) j=NI I j:=by
     unfold NI;rw [Na,QY base x.mask _ l,<-Na]
    rw [e1] at hj
    rw [e2]
    exact O hj
  unfold PM at h1⊢
  rw [OT V] at h1⊢
  split at h1
  case h_2=>cases h1
  rename_i v1 T g
  simp only [Option.some.injEq,Prod.mk.injEq] at h1
  obtain ⟨rfl,_⟩:=h1
  have:=YE Z V g
  subst this
  rw [Npy J F g]
  simp only [Tj]
 rcases E with E | ⟨J,U⟩
 case inr=>
  have Z:kind x.op=.r:=by cases hx:x.op<;>rw [hx] at J<;>simp [isRead] at J<;>rfl
  have V:∀mp f args,x.op≠.call mp f args:=fun mp f args e=>by rw [e] at J;simp [isRead] at J
  have e1:=Ya W Z h1
  subst e1
  refine ⟨I,h2, ?_⟩
  have S:H1.length<=I.length:=Xw W X hl h2
  have O:∀j,j<H1.length->I[j]? = H1[j]?:=fun j hj=>by
   unfold PM at h2
   split at h2
   case h_2=>cases h2
   rename_i v1 T g
   simp only [Option.some.injEq,Prod.mk.injEq] at h2
   obtain ⟨rfl,rfl⟩:=h2
   rw [PH] at S
   have hk:∀j,j<(OD base y.mask H1).length->T[j]? = (OD base y.mask H1)[j]?:=by
    cases hyo:y.op<;>rw [hyo] at U g<;>simp [N4q] at U
    rename_i mp f args
    cases mp<;>simp at U
    simp only [RB] at g
    split at g
    case h_2=>cases g
    exact W.keep _ _ _ _ _ _ _ (Td g).1 (Nd _)
   by_cases F:∃i∈y.mask,base+i=j
   ·rw [Sj base H1 y.mask T F (by omega),Nac hj]
   ·have l:∀i∈y.mask,base+i≠j:=fun i hi e=>F ⟨i,hi,e⟩
    rw [R8 base H1 y.mask T l,hk j (by rw [OW];exact hj),QY base y.mask _ l]
  have F:∀(j:Nat) b,(OD base x.mask H1)[j]? = some b->(OD base x.mask I)[j]? = some b:=fun j b hj=>by
   have P:j<H1.length:=by
    have:=(List.getElem?_eq_some_iff.1 hj).1
    rwa [OW] at this
   by_cases g:∃i∈x.mask,base+i=j
   ·rw [Vl base x.mask _ g P] at hj
    rw [Vl base x.mask _ g (by omega)];exact hj
   ·have l:∀i∈x.mask,base+i≠j:=fun i hi e=>g ⟨i,hi,e⟩
    rw [QY base x.mask _ l] at hj⊢
    rw [O j P];exact hj
  unfold PM at h1⊢
  rw [OT V] at h1⊢
  split at h1
  case h_2=>cases h1
  rename_i v1 T g
  simp only [Option.some.injEq,Prod.mk.injEq] at h1
  obtain ⟨rfl,_⟩:=h1
  have:=YE Z V g
  subst this
  rw [Ntp J F g]
  simp only [Tj]
 rcases E with E | ⟨hL,ad⟩
 case inr=>
  obtain ⟨Z,mx,_⟩:=Ndn hL
  have ky:kind y.op=.r:=by cases X:y.op<;>rw [X] at ad<;>simp [isLoad] at ad<;>rfl
  have e2:=Ya W ky h2
  subst e2
  refine ⟨H, ?_,h1⟩
  obtain ⟨d,hd⟩:=hx.dest mx
  have aw:=hs.maskY (.inl ky) d hd
  have hk:∀(j:Nat) b,b≠.dead->(OD base y.mask I)[j]? = some b->(OD base y.mask H)[j]? = some b:=by
   intro j b L hj
   have S:I.length=H.length:=by
    unfold PM at h1
    rw [OT (Y7 (.inr (.inr Z))),hd] at h1
    simp only [Nu] at h1
    split at h1
    case h_2=>cases h1
    rename_i v1 T g
    cases h1
    rw [PH,XL Z g,OW]
   have P:j<I.length:=by
    have:=(List.getElem?_eq_some_iff.1 hj).1
    rwa [OW] at this
   by_cases g:∃i∈y.mask,base+i=j
   ·rw [Vl base y.mask I g P] at hj
    cases hj;exact absurd rfl L
   ·have l:∀i∈y.mask,base+i≠j:=fun i hi e=>g ⟨i,hi,e⟩
    rw [QY base y.mask _ l] at hj⊢
    unfold PM at h1
    rw [OT (Y7 (.inr (.inr Z))),hd] at h1
    simp only [Nu] at h1
    split at h1
    case h_2=>cases h1
    rename_i v1 T F
    cases h1
    by_cases au:∃i∈x.mask,base+i=j
    ·rw [Sj base H x.mask T au (by rwa [PH] at P)] at hj
     rw [<-hj,Nac (by omega)]
    ·have am:∀i∈x.mask,base+i≠j:=fun i hi e=>au ⟨i,hi,e⟩
     rw [R8 base H x.mask T am] at hj
     rcases Nvc hL F j (fun e=>l d aw e.symm) with h | h
     ·rw [h,QY base x.mask _ am] at hj;exact hj
     ·rw [h] at hj;cases hj;exact absurd rfl L
  have ag:∀{j:Nat} {ro:Bool} {c:List Value},NI (OD base y.mask I) j=.cells ro c->NI (OD base y.mask H) j=.cells ro c:=fun {j ro c} h=>by
   have:=hk j _ (by intro e;cases e) (WB h (by intro e;cases e))
   unfold NI;rw [Na,this];rfl
  have aq:∀mp f args,y.op≠.call mp f args:=fun mp f args e=>by rw [e] at ad;simp [isLoad] at ad
  have ar:NJ lim (y.dest.map (base+·)) y.op (ev fr) (OD base y.mask H)=some (u,OD base y.mask H):=by
   unfold PM at h2
   rw [OT aq] at h2
   split at h2
   case h_2=>cases h2
   rename_i v1 T g
   simp only [Option.some.injEq,Prod.mk.injEq] at h2
   obtain ⟨rfl,_⟩:=h2
   cases hyo:y.op<;>rw [hyo] at ad g<;>simp [isLoad] at ad
   ·simp only [NJ] at g⊢
    split at g
    ·rename_i p hp
     simp only [Nc,Prod.mk.injEq] at g
     obtain ⟨z,hz,rfl,_⟩:=g
     have:AM.loadCell (OD base y.mask H) p=some z:=by
      unfold AM.loadCell at hz⊢
      split at hz
      ·rename_i L;rw [ag L];exact hz
      ·cases hz
     rw [this];rfl
    ·cases g
   ·rename_i nn oa
    simp only [NJ] at g⊢
    split at g
    ·rename_i p hp
     simp only [Nc,Prod.mk.injEq] at g
     obtain ⟨z,hz,rfl,_⟩:=g
     have:AM.loadCells (OD base y.mask H) p nn=some z:=by
      unfold AM.loadCells at hz⊢
      split at hz
      ·rename_i L;rw [ag L];exact hz
      ·cases hz
     rw [this];rfl
    ·cases g
  unfold PM
  rw [OT aq,ar]
  simp only [Tj]
 by_cases av:kind x.op=.s
 ·obtain ⟨r,hr⟩:=hx.home (Vu av)
  obtain ⟨b,rfl,o⟩:=Nq7 hx av hr h1
  by_cases ai:kind y.op=.s
  ·obtain ⟨r',G⟩:=X.home (Vu ai)
   obtain ⟨b',rfl,M⟩:=Nq7 X ai G h2
   have Y:r≠r':=fun e=>hs.dests r hr (by rw [G,e])
   exact ⟨_,M H (Xp (by omega)).symm,by rw [o _ (Xp (by omega)),List.set_comm _ _ (by omega)]⟩
  by_cases ab:kind y.op=.a
  ·obtain ⟨r',G⟩:=X.dest (Zo ab)
   obtain ⟨b',rfl,M⟩:=Nf5 X ab G h2
   have Y:r≠r':=fun e=>hs.dests r hr (by rw [G,e])
   exact ⟨_,M H,by rw [o _ (Xp (by omega)),List.set_comm _ _ (by omega)]⟩
  ·have ky:kind y.op=.r\/kind y.op=.w\/kind y.op=.n\/kind y.op=.c:=by
    cases hk:kind y.op<;>simp_all
   rw [U3 W X (hs.maskY ky r hr) _ _ _ hl (aa r (.inl hr))] at h2
   cases L:PM C lim base y (ev fr) H with
   | none=>rw [L] at h2;cases h2
   | some p=>
     obtain ⟨u',R⟩:=p
     rw [L] at h2
     cases h2
     exact ⟨R,rfl,o R (Nf4 W X (hs.maskY ky r hr) hl (aa r (.inl hr)) L)⟩
 by_cases ai:kind y.op=.s
 ·obtain ⟨r,hr⟩:=X.home (Vu ai)
  obtain ⟨b,rfl,o⟩:=Nq7 X ai hr h2
  by_cases ah:kind x.op=.a
  ·obtain ⟨r',G⟩:=hx.dest (Zo ah)
   obtain ⟨b',rfl,M⟩:=Nf5 hx ah G h1
   have Y:r'≠r:=fun e=>hs.dests r' G (by rw [hr,e])
   exact ⟨_,o H (Xp (by omega)).symm,by rw [M,List.set_comm _ _ (by omega)]⟩
  ·have Z:kind x.op=.r\/kind x.op=.w\/kind x.op=.n\/kind x.op=.c:=by
    cases hk:kind x.op<;>simp_all
   exact ⟨_,o H (Nf4 W hx (hs.maskX Z r hr) hl (aa r (.inr hr)) h1).symm,by rw [U3 W hx (hs.maskX Z r hr) _ _ _ hl (aa r (.inr hr)),h1];rfl⟩
 by_cases ah:kind x.op=.a
 ·obtain ⟨r,hr⟩:=hx.dest (Zo ah)
  obtain ⟨b,rfl,o⟩:=Nf5 hx ah hr h1
  by_cases ab:kind y.op=.a
  ·obtain ⟨r',G⟩:=X.dest (Zo ab)
   obtain ⟨b',rfl,M⟩:=Nf5 X ab G h2
   have Y:r≠r':=fun e=>hs.dests r hr (by rw [G,e])
   exact ⟨_,M H,by rw [o,List.set_comm _ _ (by omega)]⟩
  ·have ky:kind y.op=.r\/kind y.op=.w\/kind y.op=.n\/kind y.op=.c:=by
    cases hk:kind y.op<;>simp_all [conflict]
   rw [U3 W X (hs.maskY ky r hr) _ _ _ hl (aa r (.inl hr))] at h2
   cases L:PM C lim base y (ev fr) H with
   | none=>rw [L] at h2;cases h2
   | some p=>
     obtain ⟨u',R⟩:=p
     rw [L] at h2
     cases h2
     exact ⟨R,rfl,o R⟩
 by_cases ab:kind y.op=.a
 ·obtain ⟨r,hr⟩:=X.dest (Zo ab)
  obtain ⟨b,rfl,o⟩:=Nf5 X ab hr h2
  have Z:kind x.op=.r\/kind x.op=.w\/kind x.op=.n\/kind x.op=.c:=by
   cases hk:kind x.op<;>simp_all [conflict]
  exact ⟨_,o H,by rw [U3 W hx (hs.maskX Z r hr) _ _ _ hl (aa r (.inr hr)),h1];rfl⟩
 have ak:(kind x.op=.r\/kind x.op=.n)/\(kind y.op=.r\/kind y.op=.n):=by
  cases hk:kind x.op<;>cases hk':kind y.op<;>simp_all [conflict]
 by_cases ap:kind x.op=.n\/kind y.op=.n
 ·have sx:H1=H\/∃r b,x.dest=some r/\H1=H.set (base+r) b:=by
   rcases ak.1 with k | k
   ·exact .inl (Ya W k h1)
   ·obtain ⟨r,hr,h | ⟨b,h⟩⟩:=N2k hx k h1
    ·exact .inl h
    ·exact .inr ⟨r,b,hr,h⟩
  have ay:kind x.op=.r\/kind x.op=.w\/kind x.op=.n\/kind x.op=.c:=by rcases ak.1 with k | k<;>simp [k]
  have a0:kind y.op=.r\/kind y.op=.w\/kind y.op=.n\/kind y.op=.c:=by rcases ak.2 with k | k<;>simp [k]
  have sy:∀{A B:NE} {z:Value},PM C lim base y (ev fr) A=some (z,B)->B=A\/∃r b,y.dest=some r/\B=A.set (base+r) b:=by
   intro A B z h
   rcases ak.2 with k | k
   ·exact .inl (Ya W k h)
   ·obtain ⟨r,hr,h | ⟨b,h⟩⟩:=N2k X k h
    ·exact .inl h
    ·exact .inr ⟨r,b,hr,h⟩
  have later:∀{u:Value} {K:NE},PM C lim base y (ev fr) H=some (u,K)->∃K2,PM C lim base x (ev fr) K=some (v,K2)/\(∀r b,y.dest=some r->K=H.set (base+r) b->K2=H1.set (base+r) b)/\(K=H->K2=H1):=by
   intro u K hK
   rcases sy hK with rfl | ⟨r,b,hr,rfl⟩
   ·refine ⟨H1,h1,fun r b hr L=>?_,fun _=>rfl⟩
    rcases sx with rfl | ⟨r',b',G,rfl⟩
    ·exact L
    ·have Y:r'≠r:=fun e=>hs.dests r' G (by rw [hr,e])
     rw [List.set_comm _ _ (by omega),<-L]
   ·refine ⟨H1.set (base+r) b,by rw [U3 W hx (hs.maskX ay r hr) _ _ _ hl (aa r (.inr hr)),h1];rfl,fun r' b' G L=>?_,fun L=>?_⟩
    ·rw [hr] at G;cases G
     rcases sx with rfl | ⟨r2,b2,Q,rfl⟩
     ·exact L
     ·have Y:r2≠r:=fun e=>hs.dests r2 Q (by rw [hr,e])
      rw [List.set_comm _ _ (by omega),List.set_comm _ _ (by omega:base+r2≠base+r),L]
    ·rcases sx with rfl | ⟨r2,b2,Q,rfl⟩
     ·exact L
     ·have Y:r2≠r:=fun e=>hs.dests r2 Q (by rw [hr,e])
      rw [List.set_comm _ _ (by omega),L]
  have a2:∃K,PM C lim base y (ev fr) H=some (u,K)/\(∀r b,x.dest=some r->H1=H.set (base+r) b->I=K.set (base+r) b)/\(H1=H->I=K):=by
   rcases sx with rfl | ⟨r,b,hr,rfl⟩
   ·refine ⟨I,h2,fun r b hr L=>?_,fun _=>rfl⟩
    rcases sy h2 with rfl | ⟨r2,b2,Q,rfl⟩
    ·exact L
    ·have Y:r≠r2:=fun e=>hs.dests r hr (by rw [Q,e])
     rw [List.set_comm _ _ (by omega),<-L]
   ·rw [U3 W X (hs.maskY a0 r hr) _ _ _ hl (aa r (.inl hr))] at h2
    cases L:PM C lim base y (ev fr) H with
    | none=>rw [L] at h2;cases h2
    | some p=>
      obtain ⟨u',K⟩:=p
      rw [L] at h2
      cases h2
      refine ⟨K,rfl,fun r' b' G ae=>?_,fun ae=>?_⟩
      ·rw [hr] at G;cases G
       rcases sy L with rfl | ⟨r2,b2,Q,rfl⟩
       ·exact ae
       ·have Y:r≠r2:=fun e=>hs.dests r hr (by rw [Q,e])
        rw [List.set_comm _ _ (by omega),List.set_comm _ _ (by omega:base+r2≠base+r),ae]
      ·rcases sy L with rfl | ⟨r2,b2,Q,rfl⟩
       ·exact ae
       ·have Y:r≠r2:=fun e=>hs.dests r hr (by rw [Q,e])
        rw [List.set_comm _ _ (by omega),ae]
  obtain ⟨K,k1,k2,k3⟩:=a2
  obtain ⟨K2,m1,m2,m3⟩:=later k1
  refine ⟨K,k1, ?_⟩
  rw [m1]
  congr 2
  rcases sx with rfl | ⟨r,b,hr,L⟩
  ·rw [k3 rfl]
   rcases sy k1 with e | ⟨r2,b2,Q,e⟩
   ·rw [m3 e,e]
   ·rw [m2 r2 b2 Q e,e]
  ·rw [k2 r b hr L]
   rcases sy k1 with e | ⟨r2,b2,Q,e⟩
   ·rw [m3 e,L,e]
   ·have Y:r≠r2:=fun e=>hs.dests r hr (by rw [Q,e])
    rw [m2 r2 b2 Q e,L,e,List.set_comm _ _ (by omega)]
 have kr:kind x.op=.r/\kind y.op=.r:=by
  rcases ak with ⟨k1 | k1,k2 | k2⟩
  ·exact ⟨k1,k2⟩
  ·exact absurd (.inr k2) ap
  ·exact absurd (.inl k1) ap
  ·exact absurd (.inl k1) ap
 have e1:=Ya W kr.1 h1
 subst e1
 have e2:=Ya W kr.2 h2
 subst e2
 exact ⟨_,h2,h1⟩
theorem N08 (w:CallOk0 C) {x y:AIns} (z:Planned x) (A:Planned y) (hs:Sep x y) {fr fr1 f:Nat->Value} {H H1 l:NE} (hl:lim<=H.length) (k:∀r,x.dest=some r\/y.dest=some r->base+r<H.length) (h1:TP C N lim (some base) x fr H=some (fr1,H1)) (h2:TP C N lim (some base) y fr1 H1=some (f,l)) :
  ∃b c,TP C N lim (some base) y fr H=some (b,c)/\TP C N lim (some base) x b c=some (f,l):=by
 have a:=hs.apart
 unfold Nb2 at a
 have o:∀d,x.dst=some d->d∉y.looks:=fun d e=>by rw [e] at a;simp at a;exact a.1.1
 have q:∀d,x.dst=some d->y.dst≠some d:=fun d e=>by rw [e] at a;simp at a;exact a.1.2
 have s:∀d,y.dst=some d->d∉x.looks:=fun d e=>by rw [e] at a;simp at a;exact a.2
 unfold TP at h1 h2
 cases hv:Tc C N lim (some base) x fr H with
 | none=>rw [hv] at h1;cases h1
 | some p=>
 obtain ⟨v,n⟩:=p
 rw [hv] at h1
 simp only [Nc,Prod.mk.injEq] at h1
 obtain ⟨f1,g,rfl,rfl⟩:=h1
 rw [Nfb g o] at h2
 cases hu:Tc C N lim (some base) y fr n with
 | none=>rw [hu] at h2;cases h2
 | some p=>
 obtain ⟨u,B⟩:=p
 rw [hu] at h2
 simp only [Nc,Prod.mk.injEq] at h2
 obtain ⟨f2,j,rfl,rfl⟩:=h2
 obtain ⟨h,e1,e2⟩:=Ns7 w z A hs hl k hv hu
 obtain ⟨i,m,t⟩:=put_comm g j q
 refine ⟨i,h,by simp only [TP,e1,m];rfl, ?_⟩
 unfold TP
 rw [Nfb m s,e2]
 simp [t]
def YP (C:Uc) (N lim:Nat) (base:Option Nat):List AIns->(Nat->Value)->NE->Option ((Nat->Value)×NE)
 | [],fr,H=>some (fr,H)
 | i::l,fr,H=>match TP C N lim base i fr H with
   | some (fr',H')=>YP C N lim base l fr' H'
   | none=>none
theorem Xt {b:Option Nat} {i:AIns} {l:List AIns} {fr:Nat->Value} {H:NE} {r} (h:YP C N lim b (i::l) fr H=some r):∃fr' H',TP C N lim b i fr H=some (fr',H')/\YP C N lim b l fr' H'=some r:=by
 simp only [YP] at h
 split at h
 ·rename_i fr' H' h1;exact ⟨fr',H',h1,h⟩
 ·cases h
theorem N4t (a:CallOk0 C) {i:AIns} (hp:Planned i) {fr fr':Nat->Value} {H H':NE} (hl:lim<=H.length) (h:TP C N lim (some base) i fr H=some (fr',H')):H.length<=H'.length:=by
 unfold TP at h
 cases hv:Tc C N lim (some base) i fr H with
 | none=>rw [hv] at h;cases h
 | some p=>
   obtain ⟨v,K⟩:=p
   rw [hv] at h
   simp only [Nc,Prod.mk.injEq] at h
   obtain ⟨f,c,rfl,rfl⟩:=h
   rw [SH] at hv
   cases hw:RX N fr i.guard with
   | none=>rw [hw] at hv;cases hv
   | some b=>
     rw [hw] at hv
     cases b with
     | false=>cases hv;exact Nd _
     | true=>exact Xw a hp hl hv
theorem N2i (d:CallOk0 C) {x:AIns} (i:Planned x) (B:List AIns):∀(A:List AIns) (fr:Nat->Value) (H:NE) (r),lim<=H.length->(∀r,x.dest=some r->base+r<H.length)->(∀a∈A,(Planned a/\Sep a x)/\∀r,a.dest=some r->base+r<H.length)->YP C N lim (some base) (A++x::B) fr H=some r->
  YP C N lim (some base) (x::(A++B)) fr H=some r
 | [],fr,H,r,_,_,_,h=>h
 | a::A,fr,H,r,hl,c,hA,h=>by
   obtain ⟨fr1,H1,h1,h2⟩:=Xt h
   obtain ⟨⟨j,p⟩,l⟩:=hA a Nm
   have g:=N4t d j hl h1
   have ih:=N2i d i B A fr1 H1 r (by omega) (fun r hr=>by have:=c r hr;omega) (fun b f=>⟨(hA b (Nk _ f)).1,fun r hr=>by have:=(hA b (Nk _ f)).2 r hr;omega⟩) h2
   obtain ⟨m,q,n,o⟩:=Xt ih
   obtain ⟨e,k,e1,e2⟩:=N08 d j i p hl (fun r hr=>by rcases hr with hr | hr;exact l r hr;exact c r hr) h1 n
   simp only [O2,YP,e1,e2]
   exact o
end
structure Grow (lim:Nat) (H H':NE):Prop where
 new:∀(j:Nat) b,H'[j]? = some b->alive b=true->H[j]? = some b\/(owned b=true/\lim<=j)
 keep:∀j,j<lim->H'[j]? = H[j]?
instance {lim:Nat} {H H':NE}:CoeFun (Grow lim H H') (fun _=>∀(j:Nat) b,H'[j]? = some b->alive b=true->H[j]? = some b\/(owned b=true/\lim<=j)):=⟨Grow.new⟩
theorem Grow.refl (lim:Nat) (H:NE):Grow lim H H:=⟨fun _ _ h _=>.inl h,fun _ _=>rfl⟩
theorem Grow.trans {lim:Nat} {A B C:NE} (h:Grow lim A B) (k:Grow lim B C):Grow lim A C:=⟨fun j b c a=>by
 rcases k.new j b c a with h1 | h1
 ·exact h.new j b h1 a
 ·exact .inr h1,fun j hj=>(k.keep j hj).trans (h.keep j hj)⟩
theorem Grow.weaken {lim lim':Nat} {A B:NE} (h:Grow lim' A B) (hl:lim<=lim'):Grow lim A B:=⟨fun j b c a=>(h.new j b c a).imp id fun h=>⟨h.1,by omega⟩,fun j hj=>h.keep j (by omega)⟩
theorem Grow.set {lim:Nat} {H:NE} {i:Nat} {b:Blk} (hl:lim<=i) (d:alive b=true->owned b=true):Grow lim H (H.set i b):=⟨fun j c hc a=>by
 rw [N7] at hc
 split at hc
 ·rename_i e
  split at hc
  ·cases hc;exact .inr ⟨d a,e▸hl⟩
  ·cases hc
 ·exact .inl hc,fun j hj=>by rw [N7,Ng (by omega)]⟩
theorem Grow.app {lim:Nat} {H X:NE} (hl:lim<=H.length) (a:∀b∈X,alive b=true->owned b=true):Grow lim H (H++X):=⟨fun j c hc d=>by
 by_cases hj:j<H.length
 ·rw [N9 hj] at hc;exact .inl hc
 ·rw [Of (by omega)] at hc
  exact .inr ⟨a c (Og hc) d,by omega⟩,fun j hj=>N9 (by omega)⟩
theorem Grow.place {lim:Nat} {H:NE} {dest:Option Nat} {b:Blk} (a:owned b=true) (hd:∀d,dest=some d->lim<=d) (hl:lim<=H.length):Grow lim H (place dest b H).2:=by
 cases dest with
 | some d=>exact Grow.set (hd d rfl) fun _=>a
 | none=>exact Grow.app hl fun c hc _=>by simp at hc;subst hc;exact a
theorem Grow.dead {lim:Nat} {H:NE} (hl:lim<=H.length) (n:Nat):Grow lim H (H++List.replicate n .dead):=
 Grow.app hl fun b c a=>by rw [(List.mem_replicate.1 c).2] at a;simp [alive] at a
theorem TS {lim:Nat} {H H':NE} {a:Addr} {vs:List Value} (h:storeAt lim H a vs=some H'):Grow lim H H':=by
 unfold storeAt at h
 split at h
 ·split at h
  ·rename_i hc;cases h;exact Grow.set hc.1 fun _=>rfl
  ·cases h
 ·cases h
theorem Nge {o:AOp} (hL:isL o=false) {lim:Nat} {dest:Option Nat} {ρ:Operand->Value} {H H':NE} {v:Value} (hn:kind o≠.n) (h:NJ lim dest o ρ H=some (v,H')) (hd:∀d,dest=some d->lim<=d) (hl:lim<=H.length):Grow lim H H':=by
 cases hk:kind o with
 | n=>exact absurd hk hn
 | p=>rw [(N02 hk h).1];exact Grow.refl _ _
 | r=>
   by_cases hc:∃mp f args,o=.call mp f args
   ·obtain ⟨mp,f,args,rfl⟩:=hc;simp [NJ] at h
   ·rw [YE hk (fun mp f args e=>hc ⟨mp,f,args,e⟩) h];exact Grow.refl _ _
 | c=>
   cases o<;>simp [kind] at hk
   simp [NJ] at h
 | a=>
   cases o<;>simp [kind] at hk<;>simp only [NJ] at h
   case alloc=>cases h;exact Grow.place (b:=.cells false _) rfl hd hl
   case box=>
    split at h
    case isFalse=>cases h
    cases h;exact Grow.place (b:=.cells false _) rfl hd hl
   case buildSlice=>
    split at h
    case h_2=>cases h
    cases h;exact Grow.place (b:=.cells false _) rfl hd hl
   case makeSlice=>
    split at h
    case h_2=>cases h
    split at h
    case isFalse=>cases h
    cases h;exact Grow.place (b:=.cells false _) rfl hd hl
   case growNil=>
    split at h
    case h_2=>cases h
    split at h
    case isFalse=>cases h
    cases h;exact Grow.place (b:=.cells false _) rfl hd hl
   case makeMap=>
    split at h
    case h_2=>cases h
    cases h;exact Grow.place (b:=.map []) rfl hd hl
   case call mp f args=>split at hk<;>cases hk
 | s=>
   have hs:=Vu hk
   cases o<;>simp [WA] at hs
   rename_i n a x
   have h':=WI h
   simp only [Z8,NJ] at h'
   split at h'
   ·split at h'
    ·simp only [Nc,Prod.mk.injEq] at h';obtain ⟨_,h1,_,rfl⟩:=h';exact TS h1
    ·cases h'
   ·cases h'
 | w=>
   cases o<;>simp [kind] at hk<;>simp only [NJ] at h
   case store=>
    split at h
    ·split at h
     ·simp only [Nc,Prod.mk.injEq] at h;obtain ⟨_,h1,_,rfl⟩:=h;exact TS h1
     ·cases h
    ·cases h
   case storeO=>
    split at h
    ·split at h
     ·simp only [Nc,Prod.mk.injEq] at h;obtain ⟨_,h1,_,rfl⟩:=h;exact TS h1
     ·cases h
    ·cases h
   case append=>
    unfold PQ at h
    split at h
    case h_2=>cases h
    split at h
    ·cases h
    split at h
    ·cases h;exact Grow.refl _ _
    split at h
    ·split at h
     ·cases h;exact Grow.place (b:=.cells false _) rfl hd hl
     ·cases h
    ·split at h
     ·cases h
     split at h
     ·split at h
      ·split at h
       ·cases h
        exact (Grow.set (b:=.dead) ‹lim<=_› fun h=>by simp [alive] at h).trans (Grow.place (b:=.cells false _) rfl hd (by simpa using hl))
       ·cases h
      ·cases h
     ·split at h
      ·split at h
       ·split at h
        ·rename_i h1;cases h;exact TS h1
        ·cases h
       ·cases h;exact Grow.place (b:=.cells false _) rfl hd hl
      ·cases h
   case copy=>
    split at h
    ·split at h
     ·split at h
      ·split at h
       ·cases h;exact Grow.refl _ _
       ·simp only [Nc,Prod.mk.injEq] at h;obtain ⟨_,h1,_,rfl⟩:=h;exact TS h1
      ·split at h
       ·cases h;exact Grow.refl _ _
       ·cases h
     ·cases h
    ·cases h
   case mapUpdate=>
    split at h
    ·split at h
     ·split at h
      ·rename_i hc
       split at h<;>cases h
       ·exact Grow.set hc.2 fun _=>rfl
       ·exact Grow.set hc.2 fun _=>rfl
      ·cases h
     ·cases h
    ·cases h
   case clear=>
    split at h
    ·split at h
     ·cases h;exact Grow.refl _ _
     ·simp only [Nc,Prod.mk.injEq] at h;obtain ⟨_,h1,_,rfl⟩:=h;exact TS h1
    ·cases h
   case delete=>cases h
   case call mp f args=>split at hk<;>cases hk
   case appendL=>simp [isL] at hL
theorem Nim {o:AOp} {lim:Nat} {dest:Option Nat} {ρ:Operand->Value} {H H':NE} {v:Value} (hn:kind o≠.n) (h:NJ lim dest o ρ H=some (v,H')) (hd:∀d,dest=some d->lim<=d) (hl:lim<=H.length):Grow lim H H':=by
 cases hL:isL o with
 | false=>exact Nge hL hn h hd hl
 | true=>obtain ⟨_,_,h1,h2,_⟩:=Ndn hL;exact Nge h1 (by rw [h2];simp) (WI h) hd hl
theorem Ngf {o:AOp} {lim:Nat} {dest:Option Nat} {ρ:Operand->Value} {H H':NE} {v:Value} (h:NJ lim dest o ρ H=some (v,H')) (hd:∀d,dest=some d->lim<=d) (hl:lim<=H.length):Grow lim H H':=by
 by_cases hn:kind o=.n
 ·cases o<;>(try (simp [kind] at hn;done))
  ·exact Nim (by simp [Z8,kind]) (WI h) hd hl
  ·rename_i mp f as'
   cases mp<;>simp [kind,CM.isPure] at hn
 ·exact Nim hn h hd hl
def Tx (Pg:Prg) (W:Nat->Prop) (lim:Nat) (σ:PK) (H:NE) (v:Value) (H':NE) (w:World):Ending->World->Prop:=fun e w'=>
 ∃v' a,e=.returned v'/\VRel a v v'/\Inv Pg W lim a H' w'/\Stp W w w'/\PK.le σ a/\∀j,a j≠σ j->H.length<=j
def T9 (r:Loop) (args:Array Value):Array Value:=(r.params.zip args).foldl (fun tmps (t,a)=>tmps.setIfInBounds t a) r.tmps
structure CallOk (Pg:Prg) (C:Uc):Prop extends CallOk0 C where
 fn:∀mp lim g as H v H',C mp lim (.inl g) as H=some (v,H')->∃fn,Pg.P.funcs[g]? = some fn/\fn.body.isSome=true/\(fn.name == "runtime.NumGoroutine")=false
 calls:∀mp lim g as H v H',C mp lim (.inl g) as H=some (v,H')->lim<=H.length->∀W σ w as',Inv Pg W lim σ H w->OM σ as as'->Calls Pg.P g as'.toArray w (Tx Pg W lim σ H v H' w)
 rounds:∀mp lim i as H v H',C mp lim (.inr i) as H=some (v,H')->lim<=H.length->∀W σ w as' L,Inv Pg W lim σ H w->OM σ as as'->σ i=some L->
  ∃r,w.heap[L.blk]? = some (.loop r)/\as'.toArray.size=r.params.size/\RoundIn Fence.wide 0 Pg.P L.blk r.fn (T9 r as'.toArray) r.assign r.body w (Tx Pg W lim σ H v H' w)
 grow:∀mp lim g as H v H',C mp lim g as H=some (v,H')->lim<=H.length->Grow lim H H'
def WF (ro:Option Nat):Fence:={ Fence.wide with round:=ro }
theorem MB {ro:Option Nat}:(WF ro).depth.isSome=true->1<=0:=fun h=>by cases h
theorem Nfx {ro:Option Nat} {n:Nat} {P:Program} {f:FuncId} {args:Array Value} {w:World} {R:Ending->World->Prop} (h:Calls P f args w R):CallsIn (WF ro) n P f args w R:=
 ⟨trivial,(callsIn_wide (n:=n).2 h).2⟩
theorem Nek {ro:Option Nat} {n m:Nat} {P:Program} {l:Nat} {f:FuncId} {tmps:Array Value} {assign body:Code} {w:World} {R:Ending->World->Prop} (h:RoundIn Fence.wide m P l f tmps assign body w R):RoundIn (WF ro) n P l f tmps assign body w R:=
 ⟨trivial,fun c cs _=>h.2 c cs (room_wide _)⟩
section
variable {P:Program} {pf pureF:FuncId->Bool} {C:Uc} {W:Nat->Prop} {lim:Nat} {σ:PK} {H H':NE} {w:World} {dest:Option Nat}
def ZR (Pp:Prg) (W:Nat->Prop) (lim:Nat) (σ:PK) (dest:Option Nat) (H:NE) (w:World) (v:Value) (H':NE) (v':Value) (w':World) (a:PK):Prop:=
 VRel a v v'/\Inv Pp W lim a H' w'/\Stp W w w'/\PK.le σ a/\(∀j,a j≠σ j->dest=some j\/H.length<=j)/\H.length<=H'.length/\Grow lim H H'
theorem Nf0 {ρ':Operand->Value} {o:Oper} {c:Call} (ho:o.op=.call c) {f:Operand} (hc:c.callee=.value f) {g:FuncId} {fi ca:Array Value} (hf:ρ' f=.func (.func g) fi ca)
  {fn:Func} (h1:P.funcs[g]? = some fn) (h2:fn.body.isSome=true) (h3:(fn.name == "runtime.NumGoroutine")=false) :
  (execOp ρ' o).run P w=.ok (.enter g (fi++c.args.map ρ'++ca)) w:=by
 have hb:fn.body.isNone=false:=by cases h:fn.body<;>simp_all
 have h3':¬(fn.name= "runtime.NumGoroutine"):=by simpa using h3
 simp [execOp,ho,resolve,hc,Deferred.ofValue,hf,invoke,callFunc,h1,h3']
 intro h;rw [h] at h2;cases h2
theorem VRel.yld_left {i:Nat} {a ca:Array Value} {v':Value} (h:VRel σ (.func (.yield i) a ca) v'):∃L,σ i=some L/\a=#[]/\ca=#[]/\v'=.func (.yield L.blk) #[] #[]:=by
 cases h with
 | atom h=>simp [AM.atom] at h
 | yld h=>exact ⟨_,h,rfl,rfl,rfl⟩
theorem Nfz {ρ':Operand->Value} {o:Oper} {c:Call} (ho:o.op=.call c) {f:Operand} (hc:c.callee=.value f) {l:Nat} (a:ρ' f=.func (.yield l) #[] #[])
  {r:Loop} (h1:w.heap[l]? = some (.loop r)) (h2:(c.args.map ρ').size=r.params.size) :
  (execOp ρ' o).run P w=.ok (.round l r.fn (T9 r (c.args.map ρ')) r.assign r.body) w:=by
 have:=run_yield (P:=P) h1 h2
 simp [execOp,ho,resolve,hc,Deferred.ofValue,a,invoke]
 simpa [T9] using this
theorem CM.lim_le (mp:CM) (hl:lim<=H.length):lim<=mp.lim lim H/\mp.lim lim H<=H.length:=by cases mp<;>simp [CM.lim,hl]
theorem Inv.up {Pp:Prg} {lim':Nat} (h:Inv Pp W lim σ H w) (hl:lim<=lim'):Inv Pp W lim' σ H w:=⟨h.blk,h.inj,fun i b L a ho c hL=>h.wr i b L a ho (by omega) hL,h.fresh,h.dom⟩
theorem Inv.back {Pp:Prg} {lim':Nat} {e:PK} {w':World} (a:Inv Pp W lim σ H w) (h:Inv Pp W lim' e H' w') (c:PK.le σ e) (j:Grow lim' H H'):Inv Pp W lim e H' w':=
 ⟨h.blk,h.inj,fun i b L g ho d hL=>(j.new i b g (PP ho)).elim (fun h1=>by
  obtain ⟨L0,h2,_⟩:=a.blk i b h1 (PP ho)
  have f:=c _ _ h2
  rw [hL] at f;cases f
  exact a.wr i b L h1 ho d h2) (fun h1=>h.wr i b L g ho h1.2 hL),h.fresh,h.dom⟩
theorem Nd5 (D:CallOk (Prg.mk P pf) C) {R:Bool} {o:Oper} {O y:AOp} (k:Na2 P pureF R o=some y) (S:O=y\/∃m f as,O=.call m f as/\y=.call .any f as) (t:Inv (Prg.mk P pf) W lim σ H w) (hl:lim<=H.length) (ac:∀d,dest=some d->lim<=d) (hd:∀d,dest=some d->d<H.length/\σ d=none)
  {ρ:Operand->Value} {a:Act} (hρ:∀x,PU x=true->VRel σ (ρ x) (a.eval x)) {v:Value} (hx:RB C lim dest O ρ H=some (v,H'))
  {K:Act->World->Prop} {Q:Exit->Act->World->Prop} (hK:∀v' w' N,ZR (Prg.mk P pf) W lim σ dest H w v H' v' w' N->K (a.put o.dst v') w') {ro:Option Nat}:o.wpIn (WF ro) 0 P a w K Q:=by
 by_cases A:∃mp f args,O=.call mp f args
 ·obtain ⟨mp,f,args,rfl⟩:=A
  obtain ⟨Y,rfl⟩:∃Y,y=.call Y f args:=by
   rcases S with h | ⟨m',f',as',h,h'⟩
   ·exact ⟨mp,h.symm⟩
   ·cases h;exact ⟨.any,h'⟩
  have ag:∃c,o.op=.call c/\c.callee=.value f/\args=c.args.toList/\∀x∈o.op.operands,PU x=true:=by
   obtain ⟨dst,op,type,pos,after,guard⟩:=o
   unfold Na2 at k
   split at k
   ·cases k
   rename_i U
   simp only [Bool.not_eq_true,Bool.not_eq_false'] at U
   have u:∀x∈op.operands,PU x=true:=fun x hx=>Nlt (o:=⟨dst,op,type,pos,after,guard⟩) (by simpa using U) hx
   cases op<;>(try simp only at k)<;>try (cases k;done)
   case call c=>
    refine ⟨c,rfl, ?_⟩
    cases hc:c.callee with
    | value f'=>rw [hc] at k;simp at k;obtain ⟨_,rfl,rfl⟩:=k;exact ⟨rfl,rfl,u⟩
    | invoke r m=>rw [hc] at k;simp at k
    | builtin b=>
      rw [hc] at k
      exfalso
      cases b<;>(try simp only at k)<;>(try (cases k;done))<;>(repeat' (split at k))<;>first
       | (cases k;done)
       | (simp only [Nc] at k;obtain ⟨_,_,k⟩:=k;cases k;done)
       | (exfalso;simp at k;done)
       | (obtain ⟨_,_,k⟩:=OA k;obtain ⟨_,_,k⟩:=OA k;obtain ⟨_,_,k⟩:=OA k;split at k<;>cases k;done)
   all_goals exfalso
   all_goals (repeat' (first | (obtain ⟨_,_,k⟩:=OA k) | split at k))
   all_goals first
    | (cases k;done)
    | (simp only [Nc] at k;obtain ⟨_,_,k⟩:=k;cases k;done)
    | contradiction
  obtain ⟨c,ho,q,rfl,u⟩:=ag
  simp only [RB] at hx
  split at hx
  case h_2=>cases hx
  rename_i g as n
  replace hx:=(Td hx).1
  obtain ⟨F,l⟩:=CM.lim_le mp hl
  have p:=t.up F
  generalize mp.lim lim H=lim' at hx F l p
  generalize mp.isPure=ah at hx
  have X:∀{ρ'},o.semAt (WF ro).round ρ'=execOp ρ' o:=fun {ρ'}=>Oper.semAt_eq _ _ _ fun c' e=>by rw [ho] at e;cases e
  refine ⟨fun _ _=>trivial, ?_⟩
  rw [X]
  have ae:PU f=true:=u f (by rw [ho];simp [Op.operands,Call.operands,q])
  have E:=hρ f ae
  have z:OM σ (c.args.toList.map ρ) (c.args.map a.eval).toList:=by
   have:(c.args.map a.eval).toList=c.args.toList.map a.eval:=by simp
   rw [this]
   exact VJ fun x hx=>hρ x (u x (by rw [ho];simp only [Op.operands,Call.operands,q];simp at hx⊢;exact .inr hx))
  unfold NC at n
  split at n
  case h_3=>cases n
  case h_2=>
   rename_i i fi ca hf
   simp only [Option.some.injEq,Prod.mk.injEq] at n
   obtain ⟨rfl,rfl⟩:=n
   rw [hf] at E
   obtain ⟨L,hL,rfl,rfl,J⟩:=E.yld_left
   simp only [Ov,Nb] at hx
   obtain ⟨r,h1,h2,h3⟩:=D.rounds _ _ _ _ _ _ _ hx l W σ w _ L p z hL
   simp only [Array.toArray_toList] at h2 h3
   rw [Nfz (P:=P) ho q J h1 h2,Oper.uponIn_round]
   refine ⟨MB,Nek (h3.mono fun en w' hp=>?_)⟩
   obtain ⟨v',N,rfl,q1,q2,q3,M,Z⟩:=hp
   exact hK v' w' N ⟨q1,t.back q2 M (D.grow _ _ _ _ _ _ _ hx l),q3,M,fun j hj=>.inr (Z j hj),D.len _ _ _ _ _ _ _ hx l,(D.grow _ _ _ _ _ _ _ hx l).weaken F⟩
  rename_i g' fi ca hf
  simp only [Option.some.injEq,Prod.mk.injEq] at n
  obtain ⟨rfl,rfl⟩:=n
  rw [hf] at E
  obtain ⟨I,G,J,ad,aa⟩:=E.func_left
  obtain ⟨fn,h1,h2,h3⟩:=D.fn _ _ _ _ _ _ _ hx
  have V:=Nf0 (P:=P) (w:=w) ho q J h1 h2 h3
  have s:=D.calls _ _ _ _ _ _ _ hx l W σ w (I.toList++(c.args.map a.eval).toList++G.toList) p ((ad.append z).append aa)
  have e:(I.toList++(c.args.map a.eval).toList++G.toList).toArray=I++c.args.map a.eval++G:=by
   apply Array.ext';simp
  rw [e] at s
  rw [V,Oper.uponIn_enter]
  refine ⟨MB,Nfx (s.mono fun en w' hp=>?_)⟩
  obtain ⟨v',N,rfl,q1,q2,q3,M,Z⟩:=hp
  exact hK v' w' N ⟨q1,t.back q2 M (D.grow _ _ _ _ _ _ _ hx l),q3,M,fun j hj=>.inr (Z j hj),D.len _ _ _ _ _ _ _ hx l,(D.grow _ _ _ _ _ _ _ hx l).weaken F⟩
 ·have T:∀mp f args,O≠.call mp f args:=fun mp f args e=>A ⟨mp,f,args,e⟩
  obtain rfl:O=y:=by
   rcases S with h | ⟨m',f',as',h,_⟩
   ·exact h
   ·exact absurd h (T _ _ _)
  rw [OT T] at hx
  obtain ⟨nx,w',N,v',hr,hn,q1,q2,q3,M,Z,q6,q7⟩:=Nwr k t hρ hd hx
  have B:ZR (Prg.mk P pf) W lim σ dest H w v H' v' w' N:=⟨q1,q2,q3,M,fun j hj=>(Z j hj).imp id (·.2),q6,Ngf hx ac hl⟩
  have ab:∀c,o.op≠.defer c:=fun c e=>by
   obtain ⟨dst,op,type,pos,after,guard⟩:=o
   simp only at e
   subst e
   unfold Na2 at k
   split at k<;>simp at k
  refine ⟨fun _ _=>trivial, ?_⟩
  rw [Oper.semAt_eq _ _ _ ab,hr]
  cases nx<;>simp [Njg] at hn
  ·subst hn;rw [Oper.uponIn_value];exact hK _ _ _ B
  ·subst hn;rw [Oper.uponIn_skip];exact hK _ _ _ B
theorem Ntf (h:CallOk (Prg.mk P pf) C) {b:Bool} {o:Oper} {g:AOp} (f:Na2 P pureF b o=some g) (c:Inv (Prg.mk P pf) W lim σ H w) (hl:lim<=H.length) (e:∀d,dest=some d->lim<=d) (hd:∀d,dest=some d->d<H.length/\σ d=none)
  {ρ:Operand->Value} {a:Act} (j:∀x,PU x=true->VRel σ (ρ x) (a.eval x)) {v:Value} (i:RB C lim dest g ρ H=some (v,H'))
  {K:Act->World->Prop} {Q:Exit->Act->World->Prop} (hK:∀v' w' k,ZR (Prg.mk P pf) W lim σ dest H w v H' v' w' k->K (a.put o.dst v') w') {ro:Option Nat}:o.wpIn (WF ro) 0 P a w K Q:=
 Nd5 h f (.inl rfl) c hl e hd j i hK
end
section
variable {P:Program} {pf pureF:FuncId->Bool} {C:Uc} {W:Nat->Prop} {lim:Nat} {σ:PK} {H H':NE} {w:World} {dest:Option Nat} {ds:List Deferred} {ro:Option Nat}
theorem Inv.mask (base:Nat):∀(l:List Nat) {H:NE},Inv (Prg.mk P pf) W lim σ H w->Inv (Prg.mk P pf) W lim σ (OD base l H) w
 | [],_,h=>h
 | i::l,H,h=>by
   simp only [OD,Ok]
   exact Inv.mask base l (h.killAny (base+i))
theorem Nma (c:Inv (Prg.mk P pf) W lim σ H w) (base:Nat) (l:List Nat) (M:∀i∈l,∀b,H[base+i]? = some b->alive b=true->owned b=true) (K:lim<=base) :
  ∃J:Nat->Prop,Inv (Prg.mk P pf) J lim σ (OD base l H) w/\∀v f v' w' E,ZR (Prg.mk P pf) J lim σ dest (OD base l H) w v f v' w' E->ZR (Prg.mk P pf) W lim σ dest H w v (NZ base l H f) v' w' E:=by
 refine ⟨fun b=>W b/\∀i∈l,∀bl L,H[base+i]? = some bl->alive bl=true->σ (base+i)=some L->L.blk≠b, ?_, ?_⟩
 ·have C:=c.mask base l
  have get:∀(j:Nat) b,(OD base l H)[j]? = some b->alive b=true->H[j]? = some b/\∀i∈l,base+i≠j:=fun j b a n=>by
   by_cases hj:∃i∈l,base+i=j
   ·have y:j<H.length:=by
     have:=(List.getElem?_eq_some_iff.1 a).1
     rw [OW] at this;exact this
    rw [Vl base l H hj y] at a
    cases a;simp [alive] at n
   ·have m:∀i∈l,base+i≠j:=fun i hi e=>hj ⟨i,hi,e⟩
    rw [QY base l H m] at a
    exact ⟨a,m⟩
  refine ⟨C.blk,C.inj,fun i b L a ho hl hL=>⟨C.wr i b L a ho hl hL,fun k hk bl I u q t e=>?_⟩,fun b a=>⟨C.fresh b a,fun k hk bl I u q t e=>?_⟩,C.dom⟩
  ·obtain ⟨h1,h2⟩:=get i b a (PP ho)
   exact c.inj i (base+k) b bl L I h1 u (fun e=>h2 k hk e.symm) ho q hL t e.symm
  ·obtain ⟨S,h1,h2⟩:=c.blk (base+k) bl u q
   rw [t] at h1;cases h1
   have:=h2.lt q
   omega
 ·rintro v f v' w' E ⟨q1,q2,q3,G,N,O,Q⟩
  rw [OW] at N O
  have D:Stp W w w':=⟨q3.os,q3.tape,q3.output,q3.size,fun b a=>q3.block b fun h=>a h.1⟩
  have same:∀i L,σ i=some L->E i=some L:=G
  have get:∀(j:Nat) b,(NZ base l H f)[j]? = some b->alive b=true->(H[j]? = some b/\∃i∈l,base+i=j)\/(f[j]? = some b/\∀i∈l,base+i≠j):=fun j b a n=>by
   by_cases hj:∃i∈l,base+i=j
   ·have y:j<f.length:=by
     have:=(List.getElem?_eq_some_iff.1 a).1
     rw [PH] at this;exact this
    rw [Sj base H l f hj y] at a
    simp only [Option.some.injEq] at a
    exact .inl ⟨RQ a n,hj⟩
   ·have m:∀i∈l,base+i≠j:=fun i hi e=>hj ⟨i,hi,e⟩
    rw [R8 base H l f m] at a
    exact .inr ⟨a,m⟩
  have old:∀(j:Nat) b,f[j]? = some b->alive b=true->(∀i∈l,base+i≠j)->H[j]? = some b\/(owned b=true/\lim<=j):=fun j b a n hj=>by
   rcases Q j b a n with h | h
   ·rw [QY base l H hj] at h;exact .inl h
   ·exact .inr h
  have p:∀(j:Nat) b Lj,H[j]? = some b->alive b=true->E j=some Lj->σ j=some Lj:=fun j b Lj a n hj=>by
   obtain ⟨L,h1,_⟩:=c.blk j b a n
   have:=same _ _ h1
   rw [this] at hj;cases hj;exact h1
  refine ⟨q1,⟨fun j b a n=>?_,fun i j bi bj Li Lj F z r g d hi hj=>?_,fun i b L a ho B hL=>?_,fun b a=>(q2.fresh b a).1,fun j hj=>q2.dom j (by rw [PH] at hj;exact hj)⟩,D,G,N,by rw [PH];exact O,⟨fun j b a n=>?_,fun j hj=>by
   have m:∀i∈l,base+i≠j:=fun i hi e=>by omega
   rw [R8 base H l f m,Q.keep j hj,QY base l H m]⟩⟩
  ·rcases get j b a n with ⟨h1,h2⟩ | ⟨h1,h2⟩
   ·obtain ⟨L,o,s⟩:=c.blk j b h1 n
    refine ⟨L,same _ _ o,s.mono G fun _=>q3.block _ fun R=>?_⟩
    obtain ⟨k,hk,rfl⟩:=h2
    exact R.2 k hk b L h1 n o rfl
   ·exact q2.blk j b h1 n
  ·rcases get i bi F (PP g) with ⟨h1,h2⟩ | ⟨h1,h2⟩
   ·have x:=p i bi Li h1 (PP g) hi
    rcases get j bj z d with ⟨o,s⟩ | ⟨o,s⟩
    ·exact c.inj i j bi bj Li Lj h1 o r g d x (p j bj Lj o d hj)
    ·rcases old j bj o d s with h | h
     ·exact c.inj i j bi bj Li Lj h1 h r g d x (p j bj Lj h d hj)
     ·have:=q2.wr j bj Lj o h.1 h.2 hj
      obtain ⟨k,hk,rfl⟩:=h2
      exact this.2 k hk bi Li h1 (PP g) x
   ·rcases get j bj z d with ⟨o,s⟩ | ⟨o,s⟩
    ·have A:=p j bj Lj o d hj
     rcases old i bi h1 (PP g) h2 with h | h
     ·exact c.inj i j bi bj Li Lj h o r g d (p i bi Li h (PP g) hi) A
     ·have:=q2.wr i bi Li h1 h.1 h.2 hi
      obtain ⟨k,hk,rfl⟩:=s
      exact fun e=>this.2 k hk bj Lj o d A e.symm
    ·exact q2.inj i j bi bj Li Lj h1 o r g d hi hj
  ·rcases get i b a (PP ho) with ⟨h1,h2⟩ | ⟨h1,h2⟩
   ·exact c.wr i b L h1 ho B (p i b L h1 (PP ho) hL)
   ·exact (q2.wr i b L h1 ho B hL).1
  ·rcases get j b a n with ⟨h1,h2⟩ | ⟨h1,h2⟩
   ·exact .inl h1
   ·exact old j b h1 n h2
structure FrRel (ds:List Deferred) (σ:PK) (N:Nat) (fr:Nat->Value) (a:Act):Prop where
 size:N<=a.tmps.size
 defers:a.defers=ds
 val:∀t,VRel σ (fr t) (a.tmps.getD t undef)
theorem FrRel.mono {σ τ:PK} {N:Nat} {fr:Nat->Value} {a:Act} (h:FrRel ds σ N fr a) (b:PK.le σ τ):FrRel ds τ N fr a:=⟨h.size,h.defers,fun t=>(h.val t).mono b⟩
theorem FrRel.ev {σ:PK} {N:Nat} {fr:Nat->Value} {a:Act} (h:FrRel ds σ N fr a) {x:Operand} (b:PU x=true):VRel σ (ev fr x) (a.eval x):=by
 cases x with
 | tmp t=>exact h.val t
 | const v=>
   have c:atom v=true:=by simpa [PU] using b
   exact .atom c
 | func f=>exact .atom rfl
 | global g=>simp [PU] at b
theorem FrRel.put {σ:PK} {N:Nat} {fr fr':Nat->Value} {a:Act} (h:FrRel ds σ N fr a) {dst:Option Nat} {v v':Value} (b:VRel σ v v') (hp:Y1 N fr dst v=some fr'):FrRel ds σ N fr' (a.put dst v'):=by
 cases dst with
 | none=>cases hp;exact h
 | some d=>
   simp only [Y1] at hp
   split at hp
   case isFalse=>cases hp
   rename_i hd
   cases hp
   refine ⟨by simpa [Act.put] using h.size,h.defers,fun t=>?_⟩
   simp only [Act.put,upd,N6]
   by_cases e:t=d
   ·subst e
    have:t<a.tmps.size:=by have:=h.size;omega
    rw [Ni rfl,Array.getElem?_setIfInBounds_self_of_lt this]
    exact b
   ·rw [Ng e,Pu (fun h=>e h.symm),<-N6]
    exact h.val t
theorem FrRel.wanted {σ:PK} {N:Nat} {fr:Nat->Value} {a:Act} (h:FrRel ds σ N fr a) {ops:Array Oper} {o:Oper} {g:Option (Nat×Bool)} (i:MF ops o.guard=some g) {b:Bool} (k:RX N fr g=some b) :
  Region.wanted o (yielded ops a.tmps)=b:=by
 unfold MF at i
 cases ho:o.guard with
 | none=>
   rw [ho] at i;simp at i;subst i
   simp [RX] at k;subst k
   simp [Region.wanted,ho]
 | some p=>
   obtain ⟨j,c⟩:=p
   rw [ho] at i
   simp only at i
   split at i
   case h_2=>cases i
   rename_i t ht
   simp only [Option.some.injEq] at i;subst i
   simp only [RX] at k
   split at k
   case isFalse=>cases k
   rename_i n
   have m:t<a.tmps.size:=Nat.lt_of_lt_of_le n h.size
   have f:=h.val t
   rw [N6,Ob m] at f
   simp only [Pc] at f
   have q:yielded ops a.tmps j=match a.tmps[t] with | .bool b=>some b | _=>none:=by
    unfold yielded
    rw [ht]
    simp only [Option.bind_some,Ob m]
    cases a.tmps[t]<;>rfl
   simp only [Region.wanted,ho,q]
   split at k
   ·rename_i d hd
    rw [hd] at f
    rw [f.bool_left]
    simp only [Option.some.injEq] at k
    rw [<-k]
    simp
   ·rename_i l
    simp only [Option.some.injEq] at k
    rw [<-k]
    have:∀d,a.tmps[t]≠.bool d:=fun d e=>by
     rw [e] at f
     generalize fr t=x at f l
     cases f
     exact l d rfl
    cases hx:a.tmps[t]<;>first | (exact absurd hx (this _)) | simp
structure State (Pp:Prg) (ds:List Deferred) (W:Nat->Prop) (lim:Nat) (σ:PK) (N:Nat) (fr:Nat->Value) (H:NE) (a:Act) (w:World):Prop where
 fr:FrRel ds σ N fr a
 inv:Inv Pp W lim σ H w
 lim:lim<=H.length
structure Kept (σ:PK) (H:NE) (base n:Nat) (todo:List Nat):Prop where
 len:base+n<=H.length
 own:∀r,r<n->∀b,H[base+r]? = some b->alive b=true->owned b=true
 free:∀r∈todo,σ (base+r)=none
 lt:∀r∈todo,r<n
theorem Nd6 {C:Uc} {o:AOp} {lim:Nat} {dest:Option Nat} {ρ:Operand->Value} {H:NE} {r} (h:RB C lim dest o ρ H=some r):RB C lim dest (Z8 o) ρ H=some r:=by
 by_cases hc:∃mp f args,o=.call mp f args
 ·obtain ⟨mp,f,args,rfl⟩:=hc;exact h
 ·have a:∀mp f args,o≠.call mp f args:=fun mp f args e=>hc ⟨mp,f,args,e⟩
  rw [OT a] at h
  have b:∀mp f args,Z8 o≠.call mp f args:=fun mp f args e=>by
   cases o<;>simp only [Z8] at e<;>first | (cases e;done) | (exact a _ _ _ e) | (split at e<;>first | (cases e;done) | (rename_i c;cases c;done) | (exact a _ _ _ e))
  rw [OT b]
  exact WI h
theorem N5c (hC:CallOk (Prg.mk P pf) C) {ops:Array Oper} {j:Nat} {o:Oper} (hj:ops[j]? = some o) {i0:AIns} (l:Nrq P pureF true ops o=some i0) {i:AIns} (hi:i.dst=i0.dst/\i.guard=i0.guard/\(i.op=i0.op\/Z8 i.op=i0.op\/∃m f as,i.op=.call m f as/\i0.op=.call .any f as)) (R:WA i0.op=false)
  {N base n:Nat} {fr fr':Nat->Value} {a:Act} (hs:State (Prg.mk P pf) ds W lim σ N fr H a w) (J:lim<=base) {todo:List Nat} (hk:Kept σ H base n todo) (B:∀r,i.made=some r->r∈todo/\r<n) (s:∀r∈i.mask,r<n)
  (k:TP C N lim (some base) i fr H=some (fr',H')) {K:Act->World->Prop} {Q:Exit->Act->World->Prop}
  (hK:∀u a' w',State (Prg.mk P pf) ds W lim u N fr' H' a' w'->Stp W w w'->PK.le σ u->Grow lim H H'->Kept u H' base n (todo.filter fun r=>i.made≠some r)->(∀j,u j≠σ j->(∃r,i.made=some r/\j=base+r)\/H.length<=j)->H.length<=H'.length->K a' w'):wpOpIn (WF ro) 0 P ops Q j K a w:=by
 obtain ⟨y,F,l⟩:=OA l
 obtain ⟨g,hg,l⟩:=OA l
 cases l
 obtain ⟨e1,e2,e3⟩:=hi
 simp only at e1 e2 e3
 unfold wpOpIn
 rw [hj]
 simp only
 unfold TP at k
 rw [SH,e2,e1] at k
 cases hw:RX N fr g with
 | none=>rw [hw] at k;cases k
 | some b=>
 rw [hs.fr.wanted hg hw]
 rw [hw] at k
 cases b with
 | false=>
   simp only [Nz,if_false]
   simp only [Nc,Prod.mk.injEq] at k
   obtain ⟨f,I,rfl,rfl⟩:=k
   exact ⟨fun _ _=>trivial,hK σ _ w ⟨hs.fr.put (.atom rfl) I,hs.inv,hs.lim⟩ (Stp.refl _ _) (PK.le_refl _) (Grow.refl _ _) ⟨hk.len,hk.own,fun r hr=>hk.free r (O5.1 hr).1,fun r hr=>hk.lt r (O5.1 hr).1⟩ (fun j hj=>absurd rfl hj) (Nd _)⟩
 | true=>
   simp only [if_true]
   simp only [PM] at k
   split at k
   case h_2=>cases k
   rename_i v H1 E
   split at E
   case h_2=>cases E
   rename_i v1 Y c
   simp only [Option.some.injEq,Prod.mk.injEq] at E
   obtain ⟨rfl,rfl⟩:=E
   simp only [Nc,Prod.mk.injEq] at k
   obtain ⟨f,I,rfl,rfl⟩:=k
   obtain ⟨p,c,q⟩:∃p,RB C lim (i.made.map (base+·)) p (ev fr) (OD base i.mask H)=some (v1,Y)/\(p=y\/∃m f as,p=.call m f as/\y=.call .any f as):=by
    cases hS:WA i.op with
    | false=>
      have t:i.made=i.dest:=by simp [AIns.made,hS]
      rw [t]
      rcases e3 with e3 | e3 | ⟨U,T,as',e3,S⟩
      ·exact ⟨y,by rw [e3] at c;exact c,.inl rfl⟩
      ·exact ⟨y,by rw [<-e3];exact Nd6 c,.inl rfl⟩
      ·exact ⟨_,c,.inr ⟨U,T,as',e3,S⟩⟩
    | true=>
      have t:i.made=none:=by simp [AIns.made,hS]
      rw [t]
      rcases e3 with e3 | e3 | ⟨U,T,as',e3,S⟩
      ·rw [e3,R] at hS;cases hS
      ·refine ⟨y, ?_,.inl rfl⟩
       have h2:=Nd6 c
       rw [e3] at h2
       generalize ab:i.op=io at hS e3
       cases io<;>simp [WA] at hS
       simp only [Z8] at e3
       subst e3
       exact h2
      ·rw [e3] at hS;simp [WA] at hS
   have hd:∀d,i.made.map (base+·)=some d->∃r,i.made=some r/\d=base+r/\r∈todo/\r<n:=fun d e=>by
    simp only [Nc] at e
    obtain ⟨r,hr,rfl⟩:=e
    exact ⟨r,hr,rfl,B r hr⟩
   obtain ⟨Wm,L,M⟩:=Nma (dest:=i.made.map (base+·)) hs.inv base i.mask (fun r hr b G D=>hk.own r (s r hr) b G D) J
   refine Nd5 hC F q L (by rw [OW];exact hs.lim) (fun d e=>by obtain ⟨r,_,rfl,_⟩:=hd d e;omega)
    (fun d e=>by
     obtain ⟨r,_,rfl,h1,h2⟩:=hd d e
     rw [OW]
     exact ⟨by have:=hk.len;omega,hk.free r h1⟩) (fun x k=>hs.fr.ev k) c fun v' w' u hn=>?_
   obtain ⟨q1,q2,q3,V,q5,q6,X⟩:=M _ _ _ _ _ hn
   have z:∀j,u j≠σ j->(∃r,i.made=some r/\j=base+r)\/H.length<=j:=fun j hj=>by
    rcases q5 j hj with h | h
    ·obtain ⟨r,h1,h2,_⟩:=hd j h
     exact .inl ⟨r,h1,h2⟩
    ·exact .inr h
   refine hK u _ w' ⟨(hs.fr.mono V).put q1 I,q2,by have:=hs.lim;omega⟩ q3 V X ⟨by have:=hk.len;omega,fun r hr b G D=>?_,fun r hr=>?_,fun r hr=>hk.lt r (O5.1 hr).1⟩ z q6
   ·rcases X _ b G D with h | h
    ·exact hk.own r hr b h D
    ·exact h.1
   ·obtain ⟨h1,h2⟩:=O5.1 hr
    have O:i.made≠some r:=by simpa using h2
    apply Oj
    intro hc
    have A:=z (base+r) (fun e=>hc (by rw [e];exact hk.free r h1))
    rcases A with ⟨r',h3,h4⟩ | h3
    ·have:r'=r:=by omega
     subst this;exact O h3
    ·have Z:=hk.lt r h1;have aa:=hk.len;omega
end
theorem MZ {α β:Type} {f:α->Option β}:∀{l:List α} {r:List β},l.mapM f=some r->r.length=l.length/\∀(j:Nat) x y,l[j]? = some x->r[j]? = some y->f x=some y
 | [],r,h=>by simp at h;subst h;exact ⟨rfl,fun j x y c=>by simp at c⟩
 | a::l,r,h=>by
   rw [List.mapM_cons] at h
   obtain ⟨b,g,h⟩:=OA h
   obtain ⟨i,d,h⟩:=OA h
   cases h
   obtain ⟨h1,h2⟩:=MZ d
   refine ⟨by simp [h1],fun j x y c e=>?_⟩
   cases j with
   | zero=>simp at c e;subst c e;exact g
   | succ j=>exact h2 j x y (by simpa using c) (by simpa using e)
section
variable {P:Program} {pf pureF:FuncId->Bool} {C:Uc} {W:Nat->Prop} {lim:Nat} {σ:PK} {H H':NE} {w:World} {ds:List Deferred} {ro:Option Nat}
def N51 (Pp:Prg) (ds:List Deferred) (W:Nat->Prop) (lim:Nat) (σ:PK) (N:Nat) (fr':Nat->Value) (H H':NE) (w:World):Exit->Act->World->Prop:=fun e a' w'=>
 e=.normal/\∃a,State Pp ds W lim a N fr' H' a' w'/\Stp W w w'/\PK.le σ a/\Grow lim H H'/\(∀j,a j≠σ j->H.length<=j)/\H.length<=H'.length
theorem MC {ops:Array Oper} {listed:Array Bool} (b:∀(i:Nat) o,ops[i]? = some o->listed.getD i false=true->∀e∈o.after.toList,Region.binds .any e=true->listed.getD e.on false=true) :
  ∀(n x a:Nat),listed.getD x false=true->waits ops n x a=true->listed.getD a false=true
 | 0,x,a,_,h=>by simp [waits] at h
 | n+1,x,a,hx,h=>by
   unfold waits at h
   split at h
   ·rename_i o ho
    obtain ⟨e,he,h2⟩:=List.any_eq_true.1 h
    simp only [N0,Bool.or_eq_true,beq_iff_eq] at h2
    have c:=b x o ho hx e he h2.1
    rcases h2.2 with h3 | h3
    ·rw [<-h3];exact c
    ·exact MC b n e.on a c h3
   ·cases h
theorem Neu {ops:Array Oper}:∀(l b:List Nat),Nr2 ops b l=true->∀A i B,l=A++i::B->∀o,ops[i]? = some o->∀e∈o.after.toList,Region.binds .any e=true->e.on∈b++A
 | [],b,_,A,i,B,h=>by simp at h
 | x::l,b,hk,A,i,B,h=>by
   intro o ho e he c
   simp only [Nr2,N0] at hk
   cases A with
   | nil=>
     simp only [Ov,List.cons.injEq] at h
     obtain ⟨rfl,rfl⟩:=h
     have h1:=hk.1
     rw [ho] at h1
     have:=N8.1 h1 e he
     rw [c] at this
     simpa using this
   | cons a A=>
     simp only [O2,List.cons.injEq] at h
     obtain ⟨rfl,h⟩:=h
     have:=Neu l (b++[x]) hk.2 A i B h o ho e he c
     simpa using this
theorem MS {ops:Array Oper} {L:List AIns}:∀(l b:List Nat),Ndf ops L b l=true->∀A i B,l=A++i::B->∀j∈b++A,No5 ops L i j=true
 | [],b,_,A,i,B,h=>by simp at h
 | x::l,b,hk,A,i,B,h=>by
   intro j hj
   simp only [Ndf,N0] at hk
   cases A with
   | nil=>
     simp only [Ov,List.cons.injEq] at h
     obtain ⟨rfl,rfl⟩:=h
     exact N8.1 hk.1 j (by simpa using hj)
   | cons a A=>
     simp only [O2,List.cons.injEq] at h
     obtain ⟨rfl,h⟩:=h
     exact MS l (b++[x]) hk.2 A i B h j (by simpa using hj)
theorem Ncg:∀{l:List Nat},nodupB l=true->l.Nodup
 | [],_=>List.nodup_nil
 | x::l,h=>by
   simp only [nodupB,N0,Bool.not_eq_true',List.contains_eq_mem,decide_eq_false_iff_not] at h
   exact List.nodup_cons.2 ⟨h.1,Ncg h.2⟩
theorem Nb5 {ops:Array Oper} {ord:List Nat} (b:∀A i B,ord=A++i::B->∀o,ops[i]? = some o->∀e∈o.after.toList,Region.binds .any e=true->e.on∈A) :
  ∀(n x a:Nat),waits ops n x a=true->∀A B,ord=A++x::B->a∈A
 | 0,x,a,h=>by simp [waits] at h
 | n+1,x,a,h=>by
   intro A B hA
   unfold waits at h
   split at h
   ·rename_i o ho
    obtain ⟨e,he,h2⟩:=List.any_eq_true.1 h
    simp only [N0,Bool.or_eq_true,beq_iff_eq] at h2
    have c:=b A x B hA o ho e he h2.1
    rcases h2.2 with h3 | h3
    ·rw [<-h3];exact c
    ·obtain ⟨d,f,rfl⟩:=List.append_of_mem c
     have:=Nb5 b n e.on a h3 d (f++x::B) (by rw [hA];simp)
     exact Ow _ this
   ·cases h
theorem Nbf {ops:Array Oper} {listed:Array Bool} {i:Nat}:i∈Region.ready .any ops listed↔i<ops.size/\listed.getD i true=false/\∀o,ops[i]? = some o->∀e∈o.after.toList,Region.binds .any e=true->listed.getD e.on false=true:=by
 unfold Region.ready
 rw [O5]
 simp only [List.mem_range,N0,Bool.not_eq_true']
 constructor
 ·rintro ⟨h1,h2,a⟩
  refine ⟨h1,h2,fun o ho e he b=>?_⟩
  rw [ho] at a
  simp only [Nu,Pc] at a
  rw [<-Array.all_toList] at a
  have:=N8.1 a e he
  simpa [b] using this
 ·rintro ⟨h1,h2,a⟩
  refine ⟨h1,h2, ?_⟩
  have ho:ops[i]? = some ops[i]:=Ob h1
  rw [ho]
  simp only [Nu,Pc]
  rw [<-Array.all_toList]
  refine N8.2 fun e he=>?_
  cases b:Region.binds .any e with
  | false=>simp
  | true=>simpa using a _ ho e he b
theorem MP:∀(l:List AOp) (n j:Nat),(QR.go n l).length=l.length/\(∀o r,l[j]? = some o->(QR.go n l)[j]? = some r->(makes o=true->∃k,r=some k/\n<=k/\k<n+((QR.go n l).filterMap id).length)/\(makes o=false->r=none))
 | [],n,j=>⟨rfl,fun o r h=>by simp at h⟩
 | o::l,n,j=>by
   unfold QR.go
   cases hm:makes o with
   | true=>
     simp only [if_true]
     obtain ⟨h1,h2⟩:=MP l (n+1) (j-1)
     refine ⟨by simp [h1],fun c r ho hr=>?_⟩
     cases j with
     | zero=>simp at ho hr;subst ho hr;exact ⟨fun _=>⟨n,rfl,Nd _,(by simp)⟩,(fun h=>by rw [hm] at h;cases h)⟩
     | succ j=>
       obtain ⟨a,b⟩:=h2 c r (by simpa using ho) (by simpa using hr)
       refine ⟨fun h=>?_,b⟩
       obtain ⟨k,k1,k2,k3⟩:=a h
       refine ⟨k,k1,by omega, ?_⟩
       simp only [List.filterMap_cons,id,Nl]
       omega
   | false=>
     simp only [Nz,if_false]
     obtain ⟨h1,h2⟩:=MP l n (j-1)
     refine ⟨by simp [h1],fun c r ho hr=>?_⟩
     cases j with
     | zero=>simp at ho hr;subst ho hr;exact ⟨(fun h=>by rw [hm] at h;cases h),fun _=>rfl⟩
     | succ j=>
       obtain ⟨a,b⟩:=h2 c r (by simpa using ho) (by simpa using hr)
       refine ⟨fun h=>?_,b⟩
       obtain ⟨k,k1,k2,k3⟩:=a h
       exact ⟨k,k1,k2,by simpa using k3⟩
theorem Xg:∀(l:List AOp) (n i j k:Nat),(QR.go n l)[i]? = some (some k)->(QR.go n l)[j]? = some (some k)->i=j/\n<=k
 | [],n,i,j,k,h,_=>by simp [QR.go] at h
 | o::l,n,i,j,k,hi,hj=>by
   unfold QR.go at hi hj
   cases hm:makes o with
   | true=>
     rw [hm] at hi hj
     simp only [if_true] at hi hj
     cases i with
     | zero=>
       cases j with
       | zero=>simp at hi;exact ⟨rfl,by omega⟩
       | succ j=>
         simp at hi hj
         have:=(Xg l (n+1) j j k hj hj).2
         omega
     | succ i=>
       cases j with
       | zero=>
         simp at hi hj
         have:=(Xg l (n+1) i i k hi hi).2
         omega
       | succ j=>
         simp at hi hj
         have:=Xg l (n+1) i j k hi hj
         omega
   | false=>
     rw [hm] at hi hj
     simp only [Nz,if_false] at hi hj
     cases i with
     | zero=>simp at hi
     | succ i=>
       cases j with
       | zero=>simp at hj
       | succ j=>
         simp at hi hj
         have:=Xg l n i j k hi hj
         omega
structure Plan (P:Program) (pureF:FuncId->Bool) (ops:Array Oper) (n:Nat) (ord:List Nat) (L:List AIns):Prop where
 len:L.length=ops.size
 mem:∀i,i∈ord↔i<ops.size
 nodup:ord.Nodup
 back:∀A i B,ord=A++i::B->∀o,ops[i]? = some o->∀e∈o.after.toList,Region.binds .any e=true->e.on∈A
 ins:∀(j:Nat) o i,ops[j]? = some o->L[j]? = some i->∃i0,Nrq P pureF true ops o=some i0/\i.dst=i0.dst/\i.guard=i0.guard/\(i.op=i0.op\/Z8 i.op=i0.op\/∃m f as,i.op=.call m f as/\i0.op=.call .any f as)/\WA i0.op=false
 planned:∀(j:Nat) i,L[j]? = some i->Planned i
 sep:∀A i B,ord=A++i::B->∀j∈A,∀x y,L[j]? = some x->L[i]? = some y->waits ops ops.size i j=false->Sep x y
 dest:∀(j:Nat) i r,L[j]? = some i->i.dest=some r->r<n
 mask:∀(j:Nat) i r,L[j]? = some i->r∈i.mask->r<n
 inj:∀(i j:Nat) x y r,L[i]? = some x->L[j]? = some y->x.made=some r->y.made=some r->i=j
theorem Nx6 (i:AIns):(toL i).dst=i.dst/\(toL i).guard=i.guard/\((toL i).op=i.op\/Z8 (toL i).op=i.op/\∃e b s x y,i.op=.append e b s x y/\∀f as,(toL i).op≠.call .any f as):=by
 unfold toL
 split
 ·rename_i h;exact ⟨rfl,rfl,.inr ⟨by rw [h];rfl,_,_,_,_,_,h,fun f as e=>by cases e⟩⟩
 ·exact ⟨rfl,rfl,.inl rfl⟩
theorem Nqg (a:List AIns) (x:AIns):(fresh a x).dst=x.dst/\(fresh a x).guard=x.guard/\((fresh a x).op=x.op\/Z8 (fresh a x).op=x.op/\∃e b s y z,(fresh a x).op=.append0 e b s y z):=by
 unfold fresh
 split
 ·rename_i c
  split
  ·exact ⟨rfl,rfl,.inr ⟨by simp only [c,Z8],_,_,_,_,_,rfl⟩⟩
  ·exact ⟨rfl,rfl,.inl rfl⟩
 ·exact ⟨rfl,rfl,.inl rfl⟩
theorem No0 (st:Bool) (c:List AIns) (x:AIns):(Y2 st c x).dst=x.dst/\(Y2 st c x).guard=x.guard/\((Y2 st c x).op=x.op\/Z8 (Y2 st c x).op=x.op/\((∃e b s y z,(Y2 st c x).op=.append0 e b s y z)\/∃n a z,(Y2 st c x).op=.storeD n a z)):=by
 obtain ⟨f1,f2,f3⟩:=Nqg c x
 unfold Y2
 split
 ·unfold toS
  split
  ·rename_i n t z d
   split
   ·refine ⟨f1,f2,.inr ⟨?_,.inr ⟨_,_,_,rfl⟩⟩⟩
    rcases f3 with f3 | ⟨_,_,_,_,_,_,f4⟩
    ·rw [<-f3,d];rfl
    ·rw [d] at f4;cases f4
   ·exact ⟨f1,f2,f3.imp id fun h=>⟨h.1,.inl h.2⟩⟩
  ·exact ⟨f1,f2,f3.imp id fun h=>⟨h.1,.inl h.2⟩⟩
 ·exact ⟨f1,f2,f3.imp id fun h=>⟨h.1,.inl h.2⟩⟩
theorem UT (l:List AIns) (a:List (Option Nat)) (i:AIns):(Ned l a i).dst=i.dst/\(Ned l a i).guard=i.guard/\(Ned l a i).op=i.op/\(Ned l a i).mask=i.mask:=by
 unfold Ned
 split<;>exact ⟨rfl,rfl,rfl,rfl⟩
theorem XH {l:List AIns} {a:List (Option Nat)} {i:AIns} (h:WA i.op=false):Ned l a i=i:=by
 unfold Ned
 rw [h];rfl
theorem Zh {ops:Array Oper} {L:List AIns} (h:Oad ops L=true) {i j:Nat} {x y:AIns} (c:L[i]? = some x) (d:L[j]? = some y) (b:i≠j) (f:waits ops ops.size i j=false) (g:waits ops ops.size j i=false) (hs:WA x.op=true) {r:Nat} (hr:x.dest=some r) :
  y.dest≠some r/\(r∈y.mask\/kind y.op=.p\/kind y.op=.a\/kind y.op=.s):=by
 have hi:=(List.getElem?_eq_some_iff.1 c).1
 have hj:=(List.getElem?_eq_some_iff.1 d).1
 have:=N8.1 h i (List.mem_range.2 hi)
 rw [c] at this
 simp only [hs,Rd,Bool.false_or] at this
 replace this:=N8.1 this j (List.mem_range.2 hj)
 rw [d,f,g] at this
 simp only [hr] at this
 have e:(i == j)=false:=by simpa using b
 rw [e] at this
 simp at this
 obtain ⟨h1,h2⟩:=this
 refine ⟨h1, ?_⟩
 rcases h2 with ((h2 | h2) | h2) | h2
 ·exact .inl h2
 ·exact .inr (.inl h2)
 ·exact .inr (.inr (.inl h2))
 ·exact .inr (.inr (.inr h2))
theorem Ncs {L:List AIns} {n:Nat} (h:N1b L n=true) {j:Nat} {x:AIns} (a:L[j]? = some x) (hs:WA x.op=true):∃r,x.dest=some r/\r<n:=by
 have:=N8.1 h x (Og a)
 rw [hs] at this
 simp only [Rd,Bool.false_or] at this
 split at this
 ·rename_i r hr;exact ⟨r,hr,by simpa using this⟩
 ·cases this
theorem Ntc (i:AIns):(Noa P i).dst=i.dst/\(Noa P i).guard=i.guard/\((Noa P i).op=i.op\/∃m f as,(Noa P i).op=.call m f as/\i.op=.call .any f as):=by
 unfold Noa
 split
 ·rename_i h
  split
  ·exact ⟨rfl,rfl,.inr ⟨_,_,_,rfl,h⟩⟩
  ·exact ⟨rfl,rfl,.inr ⟨_,_,_,rfl,h⟩⟩
 ·rename_i h;exact ⟨rfl,rfl,.inr ⟨_,_,_,rfl,h⟩⟩
 ·exact ⟨rfl,rfl,.inl rfl⟩
theorem Ntb {ops:Array Oper} {l:List AIns} {k:Nat} (i:AIns):(Nks ops l k i).dst=i.dst/\(Nks ops l k i).guard=i.guard/\((Nks ops l k i).op=i.op\/(Z8 (Nks ops l k i).op=i.op/\Z8 i.op=i.op)\/∃m f as,(Nks ops l k i).op=.call m f as/\i.op=.call .any f as):=by
 unfold Nks
 split
 ·rename_i h
  split
  ·exact ⟨rfl,rfl,.inr (.inr ⟨_,_,_,rfl,h⟩)⟩
  ·exact ⟨rfl,rfl,.inl rfl⟩
 ·rename_i h
  split
  ·exact ⟨rfl,rfl,.inr (.inl ⟨by rw [h];rfl,by rw [h];rfl⟩)⟩
  ·split
   ·exact ⟨rfl,rfl,.inr (.inl ⟨by rw [h];rfl,by rw [h];rfl⟩)⟩
   ·exact ⟨rfl,rfl,.inl rfl⟩
 ·rename_i h
  split
  ·exact ⟨rfl,rfl,.inr (.inl ⟨by rw [h];rfl,by rw [h];rfl⟩)⟩
  ·split
   ·exact ⟨rfl,rfl,.inr (.inl ⟨by rw [h];rfl,by rw [h];rfl⟩)⟩
   ·exact ⟨rfl,rfl,.inl rfl⟩
 ·rename_i h
  split
  ·split
   ·exact ⟨rfl,rfl,.inr (.inl ⟨by rw [h];rfl,by rw [h];rfl⟩)⟩
   ·exact ⟨rfl,rfl,.inl rfl⟩
  ·exact ⟨rfl,rfl,.inl rfl⟩
 ·exact ⟨rfl,rfl,.inl rfl⟩
theorem Ncu {st:Bool} {ops:Array Oper} {n:Nat} {M:List AIns} (h:Xb P pureF st ops=some (.drawn n M)):∃ord L,Plan P pureF ops n ord L/\M=ord.map fun j=>L.getD j default:=by
 unfold Xb at h
 obtain ⟨X,az,h⟩:=OA h
 simp only at h
 generalize hk:late ops (X.map (Y2 st X))=k at h
 generalize aj:((X.map (Y2 st X)).zipIdx.map fun (i,j)=>if k=some j then toL i else i)=l2 at h
 generalize al:(l2.zipIdx.map fun (i,j)=>if Nlb l2 then Nks ops l2 j i else if M4 ops l2 j then Noa P i else i)=l at h
 generalize a8:N6b ops l.length (mks l) k=ord at h
 split at h
 case isFalse=>cases h
 rename_i hc
 simp only [N0] at hc
 obtain ⟨⟨⟨⟨⟨I,ah⟩,U⟩,am⟩,u⟩,C⟩:=hc
 simp only [pure,Option.some.injEq,ACode.drawn.injEq] at h
 obtain ⟨hn,hM⟩:=h
 generalize hL:(l.zipIdx.map fun (p:AIns×Nat)=>Ned l (QR (l.map fun x=>x.op)) (Rx ops (QR (l.map fun x=>x.op)) p.2 p.1))=L at hM u C
 refine ⟨ord,L, ?_,hM.symm⟩
 obtain ⟨ag,ac⟩:=MZ az
 have ak:l.length=ops.toList.length:=by rw [<-al,Nv,List.length_zipIdx,<-aj,Nv,List.length_zipIdx,Nv];exact ag
 have T:∀(j:Nat) z,l2[j]? = some z->∃d,X[j]? = some d/\z.dst=d.dst/\z.guard=d.guard/\(z.op=d.op\/(Z8 z.op=d.op/\∀f as,z.op≠.call .any f as)):=fun j z N=>by
  rw [<-aj,O6,List.getElem?_zipIdx,O6] at N
  simp only [Nc] at N
  obtain ⟨p,⟨q,⟨d,h0,rfl⟩,rfl⟩,rfl⟩:=N
  refine ⟨d,h0, ?_⟩
  obtain ⟨f1,f2,f3⟩:=No0 st X d
  simp only
  split
  ·obtain ⟨t1,t2,g⟩:=Nx6 (Y2 st X d)
   refine ⟨t1.trans f1,t2.trans f2, ?_⟩
   rcases g with g | ⟨g,_,_,_,_,_,O,t5⟩
   ·rcases f3 with f3 | ⟨f3,⟨_,_,_,_,_,f4⟩ | ⟨_,_,_,f4⟩⟩
    ·exact .inl (g.trans f3)
    ·exact .inr ⟨by rw [g];exact f3,by rw [g,f4];intro _ _ h;cases h⟩
    ·exact .inr ⟨by rw [g];exact f3,by rw [g,f4];intro _ _ h;cases h⟩
   ·rcases f3 with f3 | ⟨f3,⟨_,_,_,_,_,f4⟩ | ⟨_,_,_,f4⟩⟩
    ·exact .inr ⟨g.trans f3,t5⟩
    ·rw [O] at f4;cases f4
    ·rw [O] at f4;cases f4
  ·refine ⟨f1,f2, ?_⟩
   rcases f3 with f3 | ⟨f3,⟨_,_,_,_,_,f4⟩ | ⟨_,_,_,f4⟩⟩
   ·exact .inl f3
   ·exact .inr ⟨f3,by rw [f4];intro _ _ h;cases h⟩
   ·exact .inr ⟨f3,by rw [f4];intro _ _ h;cases h⟩
 have ab:∀(j:Nat) z,l[j]? = some z->∃d,X[j]? = some d/\z.dst=d.dst/\z.guard=d.guard/\(z.op=d.op\/Z8 z.op=d.op\/∃m f as,z.op=.call m f as/\d.op=.call .any f as):=fun j z N=>by
  rw [<-al,O6,List.getElem?_zipIdx] at N
  simp only [Nc] at N
  obtain ⟨p,⟨q,hq,rfl⟩,rfl⟩:=N
  obtain ⟨d,h0,f1,f2,f3⟩:=T j q hq
  refine ⟨d,h0, ?_⟩
  simp only
  split
  ·obtain ⟨t1,t2,g⟩:=Ntb (ops:=ops) (l:=l2) (k:=0+j) q
   refine ⟨t1.trans f1,t2.trans f2, ?_⟩
   rcases g with g | ⟨g,O⟩ | ⟨m,f,as,g,O⟩
   ·rcases f3 with f3 | f3
    ·exact .inl (g.trans f3)
    ·exact .inr (.inl (by rw [g];exact f3.1))
   ·rcases f3 with f3 | f3
    ·exact .inr (.inl (g.trans f3))
    ·exact .inr (.inl (g.trans (O.symm.trans f3.1)))
   ·rcases f3 with f3 | f3
    ·exact .inr (.inr ⟨m,f,as,g,f3.symm.trans O⟩)
    ·exact absurd O (f3.2 f as)
  split
  ·obtain ⟨t1,t2,g⟩:=Ntc (P:=P) q
   refine ⟨t1.trans f1,t2.trans f2, ?_⟩
   rcases g with g | ⟨m,f,as,g,O⟩
   ·rcases f3 with f3 | f3
    ·exact .inl (g.trans f3)
    ·exact .inr (.inl (by rw [g];exact f3.1))
   ·rcases f3 with f3 | f3
    ·exact .inr (.inr ⟨m,f,as,g,f3.symm.trans O⟩)
    ·exact absurd O (f3.2 f as)
  ·exact ⟨f1,f2,f3.imp id fun h=>.inl h.1⟩
 have a7:(QR (l.map (·.op))).length=l.length:=by unfold QR;rw [(MP _ 0 0).1];simp
 have get:∀(j:Nat) i,L[j]? = some i->∃i0,l[j]? = some i0/\i=Ned l (QR (l.map (·.op))) (Rx ops (QR (l.map (·.op))) j i0):=fun j i hi=>by
  rw [<-hL,O6,List.getElem?_zipIdx] at hi
  simp only [Nc] at hi
  obtain ⟨p,hp,rfl⟩:=hi
  obtain ⟨i0,h1,rfl⟩:=hp
  exact ⟨i0,h1,by simp⟩
 have rk:∀(j:Nat) i0,l[j]? = some i0->∃r,(QR (l.map (·.op)))[j]? = some r/\(makes i0.op=true->∃k,r=some k/\k<n)/\(makes i0.op=false->r=none):=fun j i0 ai=>by
  have hj:j<l.length:=(List.getElem?_eq_some_iff.1 ai).1
  have hr:(QR (l.map (·.op)))[j]? = some ((QR (l.map (·.op)))[j]'(by omega)):=Nf _
  refine ⟨_,hr, ?_⟩
  have:=(MP (l.map (·.op)) 0 j).2 i0.op _ (by simp [ai]) (show (QR.go 0 (l.map (·.op)))[j]? = _ from hr)
  refine ⟨fun E=>?_,this.2⟩
  obtain ⟨k,k1,k2,k3⟩:=this.1 E
  exact ⟨k,k1,by rw [<-hn];simpa [QR] using k3⟩
 have getD:∀(j:Nat) r,(QR (l.map (·.op)))[j]? = some r->(QR (l.map (·.op))).getD j none=r:=fun j r h=>by
  rw [Na,h];rfl
 have lt:∀(j k:Nat),(QR (l.map (·.op))).getD j none=some k->k<n:=fun j k h=>by
  by_cases hj:j<l.length
  ·obtain ⟨r,r1,r2,r3⟩:=rk j _ (Nf hj)
   rw [getD j r r1] at h
   subst h
   cases E:makes l[j].op with
   | true=>obtain ⟨k',k1,k2⟩:=r2 E;simp at k1;omega
   | false=>have:=r3 E;cases this
  ·rw [Na,Nx (by omega)] at h;cases h
 have v:=fun A i B h=>Neu (ops:=ops) ord [] ah A i B h
 simp only [Ov] at v
 simp only [Nyr,N0] at I
 obtain ⟨⟨a3,a4⟩,a5⟩:=I
 have H:=Ncg a5
 refine ⟨by rw [<-hL];simp [ak],fun i=>⟨fun hi=>by simpa using N8.1 a3 i hi,fun hi=>by simpa using N8.1 a4 i (by simpa using hi)⟩,H,v,fun j o i ho hi=>?_,fun j i hi=>?_,fun A i B S j ae x y hx hy w1=>?_,fun j i r hi hr=>?_,fun j i r hi hr=>?_,fun i j x y r hx hy h1 h2=>?_⟩
 ·obtain ⟨i0,h1,rfl⟩:=get j i hi
  obtain ⟨z,N,f1,f2,f3⟩:=ab j i0 h1
  obtain ⟨Q,R,g3,_⟩:=UT l (QR (l.map (·.op))) (Rx ops (QR (l.map (·.op))) j i0)
  refine ⟨z,ac j o z (by simpa using ho) N,by rw [Q];exact f1,by rw [R];exact f2,by rw [g3];exact f3, ?_⟩
  have:=N8.1 am z (Og N)
  simpa using this
 ·have ad:=hi
  obtain ⟨i0,h1,rfl⟩:=get j i hi
  obtain ⟨r,r1,r2,r3⟩:=rk j i0 h1
  obtain ⟨Q,R,g3,g4⟩:=UT l (QR (l.map (·.op))) (Rx ops (QR (l.map (·.op))) j i0)
  refine ⟨fun hk=>?_,fun E=>?_,fun E=>(Ncs C ad E).imp fun _ h=>h.1⟩
  ·rw [g3] at hk
   rw [g4]
   have:¬(kind i0.op=.r\/kind i0.op=.w\/kind i0.op=.n\/kind i0.op=.c):=by
    have ay:kind i0.op=.p\/kind i0.op=.a\/kind i0.op=.s:=hk
    rcases ay with h | h | h<;>rw [h]<;>simp
   simp only [Rx,Ng this]
  ·rw [g3] at E
   obtain ⟨k,k1,k2⟩:=r2 E
   have a2:WA i0.op=false:=by
    cases h:WA i0.op with
    | false=>rfl
    | true=>have:=(N06 h).2;rw [show makes i0.op=true from E] at this;cases this
   rw [XH (i:=Rx ops (QR (l.map (·.op))) j i0) a2]
   exact ⟨k,by simp only [Rx];rw [getD j r r1,k1]⟩
 ·have V:=hx
  have W:=hy
  obtain ⟨Y,J,rfl⟩:=get j x hx
  obtain ⟨Z,K,rfl⟩:=get i y hy
  obtain ⟨ao,ap,F,aq⟩:=UT l (QR (l.map (·.op))) (Rx ops (QR (l.map (·.op))) j Y)
  obtain ⟨ar,au,G,av⟩:=UT l (QR (l.map (·.op))) (Rx ops (QR (l.map (·.op))) i Z)
  have t:=MS (ops:=ops) (L:=l) ord [] U A i B S j (by simpa using ae)
  unfold No5 at t
  rw [w1,J,K] at t
  simp only [Bool.false_or,N0] at t
  have D:j≠i:=fun e=>by
   subst e
   rw [S] at H
   exact (Qe.1 H).2.2 j ae j Nm rfl
  have w2:waits ops ops.size j i=false:=by
   cases hw:waits ops ops.size j i with
   | false=>rfl
   | true=>
     exfalso
     obtain ⟨A1,A2,rfl⟩:=List.append_of_mem ae
     have:=Nb5 v _ _ _ hw A1 (A2++i::B) (by rw [S];simp)
     rw [S] at H
     exact (Qe.1 H).2.2 i (Ow _ this) i Nm rfl
  have E:∀{a b:Nat} {a0:AIns} {r:Nat},l[a]? = some a0->a≠b->waits ops ops.size b a=false->(QR (l.map (·.op))).getD a none=some r->r∈(List.range (QR (l.map (·.op))).length).filterMap fun c=>if c≠b/\!waits ops ops.size b c then (QR (l.map (·.op))).getD c none else none:=fun {a b a0 r} ha aw hw hr=>by
   have ax:a<(QR (l.map (·.op))).length:=by
    rw [a7];exact (List.getElem?_eq_some_iff.1 ha).1
   exact List.mem_filterMap.2 ⟨a,List.mem_range.2 ax,by rw [Ni ⟨aw,by simpa using hw⟩];exact hr⟩
  have apart:∀{a b a' b':AIns},a.dst=a'.dst->a.guard=a'.guard->a.op=a'.op->b.dst=b'.dst->b.guard=b'.guard->b.op=b'.op->Nb2 a' b'=true->Nb2 a b=true:=fun {a b a' b'} e1 e2 e3 e4 e5 e6 h=>by
   unfold Nb2 AIns.looks at h⊢
   rw [e1,e2,e3,e4,e5,e6];exact h
  have an:∀{k:Kind},k=.r\/k=.w\/k=.n\/k=.c->k=.p\/k=.a\/k=.s->False:=fun h h'=>by
   rcases h with h | h | h | h<;>rw [h] at h'<;>simp at h'
  refine ⟨apart ao ap F ar au G t.1,by rw [F,G];exact t.2,fun hk r hr=>?_,fun hk r hr=>?_,fun r h1 h2=>?_⟩
  ·cases hS:WA Y.op with
   | true=>
     rcases (Zh u V W D w2 w1 (by rw [F];exact hS) hr).2 with h | h
     ·exact h
     ·exact (an hk h).elim
   | false=>
     rw [XH (i:=Rx ops (QR (l.map (·.op))) j Y) hS] at hr
     rw [G] at hk
     rw [av]
     simp only [Rx] at hr hk⊢
     rw [Ni hk]
     exact E J D w1 hr
  ·cases hS:WA Z.op with
   | true=>
     rcases (Zh u W V (Ne.symm D) w1 w2 (by rw [G];exact hS) hr).2 with h | h
     ·exact h
     ·exact (an hk h).elim
   | false=>
     rw [XH (i:=Rx ops (QR (l.map (·.op))) i Z) hS] at hr
     rw [F] at hk
     rw [aq]
     simp only [Rx] at hr hk⊢
     rw [Ni hk]
     exact E K (Ne.symm D) w2 hr
  ·cases hSx:WA Y.op with
   | true=>exact (Zh u V W D w2 w1 (by rw [F];exact hSx) h1).1 h2
   | false=>
     cases hSy:WA Z.op with
     | true=>exact (Zh u W V (Ne.symm D) w1 w2 (by rw [G];exact hSy) h2).1 h1
     | false=>
       rw [XH (i:=Rx ops (QR (l.map (·.op))) j Y) hSx] at h1
       rw [XH (i:=Rx ops (QR (l.map (·.op))) i Z) hSy] at h2
       simp only [Rx] at h1 h2
       obtain ⟨r1,Q,_⟩:=rk j Y J
       obtain ⟨r2,R,_⟩:=rk i Z K
       rw [getD j r1 Q] at h1
       rw [getD i r2 R] at h2
       subst h1 h2
       exact D (Xg (l.map (·.op)) 0 j i r (by simpa [QR] using Q) (by simpa [QR] using R)).1
 ·have ad:=hi
  obtain ⟨i0,h1,rfl⟩:=get j i hi
  obtain ⟨Q,R,g3,g4⟩:=UT l (QR (l.map (·.op))) (Rx ops (QR (l.map (·.op))) j i0)
  cases hS:WA i0.op with
  | true=>
    obtain ⟨r',e,a1⟩:=Ncs C ad (by rw [g3];exact hS)
    rw [e] at hr;cases hr
    rw [<-hn];exact a1
  | false=>
    rw [XH (i:=Rx ops (QR (l.map (·.op))) j i0) hS] at hr
    exact lt j r hr
 ·obtain ⟨i0,h1,rfl⟩:=get j i hi
  rw [(UT l (QR (l.map (·.op))) (Rx ops (QR (l.map (·.op))) j i0)).2.2.2] at hr
  simp only [Rx] at hr
  split at hr
  ·obtain ⟨c,a9,aa⟩:=List.mem_filterMap.1 hr
   split at aa
   ·exact lt c r aa
   ·cases aa
  ·simp at hr
 ·obtain ⟨Y,J,rfl⟩:=get i x hx
  obtain ⟨Z,K,rfl⟩:=get j y hy
  have made:∀{d:AIns} {k:Nat},(Ned l (QR (l.map (·.op))) (Rx ops (QR (l.map (·.op))) k d)).made=some r->(Rx ops (QR (l.map (·.op))) k d).dest=some r:=fun {d k} h=>by
   unfold AIns.made at h
   rw [(UT l (QR (l.map (·.op))) (Rx ops (QR (l.map (·.op))) k d)).2.2.1] at h
   cases hS:WA d.op with
   | true=>rw [show WA (Rx ops (QR (l.map (·.op))) k d).op=true from hS] at h;cases h
   | false=>
     rw [show WA (Rx ops (QR (l.map (·.op))) k d).op=false from hS] at h
     rw [XH (i:=Rx ops (QR (l.map (·.op))) k d) hS] at h
     exact h
  replace h1:=made h1
  replace h2:=made h2
  simp only [Rx] at h1 h2
  obtain ⟨r1,Q,_⟩:=rk i Y J
  obtain ⟨r2,R,_⟩:=rk j Z K
  rw [getD i r1 Q] at h1
  rw [getD j r2 R] at h2
  subst h1 h2
  exact (Xg (l.map (·.op)) 0 i j r (by simpa [QR] using Q) (by simpa [QR] using R)).1
theorem Nqu {ops:Array Oper} {n:Nat} {M:List AIns} (h:VC P pureF ops=some (.drawn n M)):∃ord L,Plan P pureF ops n ord L/\M=ord.map fun j=>L.getD j default:=by
 unfold VC at h
 split at h
 ·rename_i c hc
  cases h
  exact Ncu hc
 ·exact Ncu h
theorem Nbl {i:AIns} {r:Nat} (h:i.made=some r):i.dest=some r:=by
 unfold AIns.made at h
 split at h
 ·cases h
 ·exact h
end
section
variable {P:Program} {pf pureF:FuncId->Bool} {C:Uc} {ds:List Deferred} {ro:Option Nat}
structure Todo (ops:Array Oper) (ord:List Nat) (listed:Array Bool) (τ:List Nat):Prop where
 mem:∀i,i∈τ↔i<ops.size/\listed.getD i true=false
 sub:τ.Sublist ord
 size:listed.size=ops.size
 closed:∀(i:Nat) o,ops[i]? = some o->listed.getD i false=true->∀e∈o.after.toList,Region.binds .any e=true->listed.getD e.on false=true
theorem getD_both {listed:Array Bool} {i n:Nat} (hs:listed.size=n) (hi:i<n):listed.getD i false=listed.getD i true:=by
 rw [N6,N6,Ob (by omega)]
 rfl
theorem Nid (hC:CallOk (Prg.mk P pf) C) {ops:Array Oper} {n:Nat} {ord:List Nat} {L:List AIns} (pl:Plan P pureF ops n ord L) {N base:Nat} {Q:Exit->Act->World->Prop} (fr':Nat->Value) (H':NE) (W:Nat->Prop) (lim:Nat) (U:lim<=base) (M:PK) (H0:NE) (w0:World)
  (hQ:∀a w σ,State (Prg.mk P pf) ds W lim σ N fr' H' a w->Stp W w0 w->PK.le M σ->Grow lim H0 H'->(∀j,σ j≠M j->base<=j)->H0.length<=H'.length->Q .normal a w) :
  ∀(fuel:Nat) (listed:Array Bool) (τ:List Nat) (fr:Nat->Value) (H:NE) (a:Act) (w:World) (σ:PK),τ.length=fuel->Todo ops ord listed τ->State (Prg.mk P pf) ds W lim σ N fr H a w->Stp W w0 w->PK.le M σ->Grow lim H0 H->(∀j,σ j≠M j->base<=j)->H0.length<=H.length->
   Kept σ H base n (τ.filterMap fun i=>(L.getD i default).made)->YP C N lim (some base) (τ.map fun i=>L.getD i default) fr H=some (fr',H')->wpAnyIn (WF ro) 0 P .any ops Q fuel listed a w
 | 0,listed,τ,fr,H,a,w,σ,hf,ht,hst,h1,h2,h3,O,h5,hk,K=>by
   have hτ:τ=[]:=List.length_eq_zero_iff.1 hf
   subst hτ
   simp [YP] at K
   obtain ⟨rfl,rfl⟩:=K
   refine ⟨?_,hQ a w σ hst h1 h2 h3 O h5⟩
   rw [List.eq_nil_iff_forall_not_mem]
   intro i hi
   have:=Nbf.1 hi
   have:=(ht.mem i).2 ⟨this.1,this.2.1⟩
   cases this
 | fuel+1,listed,τ,fr,H,a,w,σ,hf,ht,hst,h1,h2,h3,O,h5,hk,K=>by
   refine ⟨fun hr=>?_,fun i hi=>?_⟩
   ·
    exfalso
    cases τ with
    | nil=>simp at hf
    | cons t τ=>
      have Z:=(ht.mem t).1 Nm
      have:t∈Region.ready .any ops listed:=Nbf.2 ⟨Z.1,Z.2,fun o ho e he g=>by
       cases hc:listed.getD e.on true with
       | true=>rw [getD_both ht.size ((pl.mem _).1 (by
         obtain ⟨E,r2,c,h1,h2⟩:=List.cons_sublist_iff.1 ht.sub
         obtain ⟨u,v,rfl⟩:=List.append_of_mem h1
         have:=pl.back u t (v++r2) (by rw [c];simp) o ho e he g
         rw [c];simp [this]))];exact hc
       | false=>
         exfalso
         obtain ⟨E,r2,c,h1,h2⟩:=List.cons_sublist_iff.1 ht.sub
         obtain ⟨u,v,rfl⟩:=List.append_of_mem h1
         have hu:=pl.back u t (v++r2) (by rw [c];simp) o ho e he g
         have ab:e.on<ops.size:=(pl.mem _).1 (by rw [c];simp [hu])
         have V:=pl.nodup
         rw [c,Nq] at V
         have hd:=(Qe.1 V).2.2 e.on hu
         have y:=(ht.mem e.on).2 ⟨ab,hc⟩
         rcases Nr.1 y with h | h
         ·exact hd t (by simp) h
         ·exact hd e.on (by simp [h2.subset h]) rfl⟩
      rw [hr] at this
      cases this
   ·obtain ⟨E,r2,r3⟩:=Nbf.1 hi
    have T:=(ht.mem i).2 ⟨E,r2⟩
    obtain ⟨A,B,rfl⟩:=List.append_of_mem T
    have ac:i<L.length:=by rw [pl.len];exact E
    have k:L[i]? = some (L.getD i default):=by rw [Na,Nf ac];rfl
    have D:∃A1 B1,ord=A1++i::B1/\A.Sublist A1:=by
     obtain ⟨E,r2,h1,h2,h3⟩:=List.append_sublist_iff.1 ht.sub
     obtain ⟨s1,s2,O,h5,h6⟩:=List.cons_sublist_iff.1 h3
     obtain ⟨u,v,rfl⟩:=List.append_of_mem h5
     exact ⟨E++u,v++s2,by rw [h1,O];simp,h2.trans (List.sublist_append_left _ _)⟩
    obtain ⟨A1,B1,X,aa⟩:=D
    have F:(A++i::B).Nodup:=ht.sub.nodup pl.nodup
    have hA:∀b∈A,Planned (L.getD b default)/\Sep (L.getD b default) (L.getD i default):=fun b g=>by
     have d:=(ht.mem b).1 (Ow _ g)
     have l:b<L.length:=by rw [pl.len];exact d.1
     have f:L[b]? = some (L.getD b default):=by rw [Na,Nf l];rfl
     refine ⟨pl.planned b _ f,pl.sep A1 i B1 X b (aa.subset g) _ _ f k ?_⟩
     cases hw:waits ops ops.size i b with
     | false=>rfl
     | true=>
       exfalso
       have key:∀m,waits ops m i b=true->listed.getD b false=true:=by
        intro m y
        cases m with
        | zero=>simp [waits] at y
        | succ m=>
          unfold waits at y
          split at y
          ·rename_i o ho
           obtain ⟨e,he,h2⟩:=List.any_eq_true.1 y
           simp only [N0,Bool.or_eq_true,beq_iff_eq] at h2
           have S:=r3 o ho e he h2.1
           rcases h2.2 with h3 | h3
           ·rw [<-h3];exact S
           ·exact MC ht.closed m e.on b S h3
          ·cases y
       have:=key _ hw
       rw [getD_both ht.size d.1,d.2] at this
       cases this
    have R:=N2i (N:=N) (lim:=lim) (base:=base) hC.toCallOk0 (pl.planned i _ k) (B.map fun i=>L.getD i default) (A.map fun i=>L.getD i default) fr H _ hst.lim (fun r hr=>by have:=pl.dest i _ r k hr;have:=hk.len;omega) (fun x K=>by
     obtain ⟨b,g,rfl⟩:=List.mem_map.1 K
     refine ⟨hA b g,fun r hr=>?_⟩
     have d:=(ht.mem b).1 (Ow _ g)
     have l:b<L.length:=by rw [pl.len];exact d.1
     have f:L[b]? = some (L.getD b default):=by rw [Na,Nf l];rfl
     have:=pl.dest b _ r f hr
     have:=hk.len
     omega) (by simpa using K)
    obtain ⟨fr1,H1,ai,aj⟩:=Xt R
    have G:ops[i]? = some ops[i]:=Ob E
    obtain ⟨i0,ah,e1,e2,e3,e4⟩:=pl.ins i _ _ G k
    refine N5c hC G ah ⟨e1,e2,e3⟩ e4 hst U hk (fun r hr=>⟨List.mem_filterMap.2 ⟨i,T,hr⟩,pl.dest i _ r k (Nbl hr)⟩) (fun r hr=>pl.mask i _ r k hr) ai fun σ' a' w' q1 q2 q3 q4 q5 q6 q7=>?_
    have q:i∉A:=fun h=>(Qe.1 F).2.2 i h i Nm rfl
    have s:i∉B:=(List.nodup_cons.1 (Qe.1 F).2.1).1
    have Y:∀j,(listed.setIfInBounds i true).getD j true=if j=i then true else listed.getD j true:=fun j=>by
     rw [N6,N6]
     by_cases hj:j=i
     ·subst hj
      rw [Ni rfl,Array.getElem?_setIfInBounds_self_of_lt (by rw [ht.size];exact E)];rfl
     ·rw [Ng hj,Pu (fun h=>hj h.symm)]
    have I:∀j,(listed.setIfInBounds i true).getD j false=if j=i then true else listed.getD j false:=fun j=>by
     rw [N6,N6]
     by_cases hj:j=i
     ·subst hj
      rw [Ni rfl,Array.getElem?_setIfInBounds_self_of_lt (by rw [ht.size];exact E)];rfl
     ·rw [Ng hj,Pu (fun h=>hj h.symm)]
    have ag:Todo ops ord (listed.setIfInBounds i true) (A++B):=by
     refine ⟨fun j=>?_, ?_,by simpa using ht.size,fun j o ho hl e he g=>?_⟩
     ·have y:=ht.mem j
      rw [Y]
      constructor
      ·intro hj
       have ae:j∈A++i::B:=by
        rcases Od.1 hj with h | h
        ·exact Ow _ h
        ·exact P4 _ (Nk _ h)
       obtain ⟨g1,J⟩:=y.1 ae
       have p:j≠i:=fun e=>by
        subst e
        rcases Od.1 hj with h | h
        ·exact q h
        ·exact s h
       exact ⟨g1,by rw [Ng p];exact J⟩
      ·rintro ⟨g1,J⟩
       by_cases p:j=i
       ·rw [Ni p] at J;cases J
       ·rw [Ng p] at J
        have:=y.2 ⟨g1,J⟩
        rcases Od.1 this with h | h
        ·exact Ow _ h
        ·rcases Nr.1 h with h | h
         ·exact absurd h p
         ·exact P4 _ h
     ·exact (List.Sublist.append_left (List.sublist_cons_self i B) A).trans ht.sub
     ·rw [I] at hl⊢
      by_cases hj:j=i
      ·subst hj
       have:=r3 o ho e he g
       split
       ·rfl
       ·exact this
      ·rw [Ng hj] at hl
       have:=ht.closed j o ho hl e he g
       split
       ·rfl
       ·exact this
    refine Nid hC pl fr' H' W lim U M H0 w0 hQ fuel _ (A++B) fr1 H1 a' w' σ' (by simp at hf⊢;omega) ag q1 (h1.trans q2) (PK.le_trans h2 q3) (h3.trans q4) (fun j hj=>?_) (by omega) ⟨q5.len,q5.own,fun r hr=>q5.free r ?_,fun r hr=>?_⟩ (by simpa using aj)
    ·apply Ny
     intro hc
     have e1:σ j=M j:=Ny fun e=>hc (O j e)
     rcases q6 j (fun e=>hj (e.trans e1)) with ⟨r,_,h⟩ | h
     ·omega
     ·have:=hk.len;omega
    ·obtain ⟨b,g,z⟩:=List.mem_filterMap.1 hr
     refine O5.2 ⟨List.mem_filterMap.2 ⟨b, ?_,z⟩, ?_⟩
     ·rcases Od.1 g with h | h
      ·exact Ow _ h
      ·exact P4 _ (Nk _ h)
     ·simp only [ne_eq,decide_not,Bool.not_eq_true',decide_eq_false_iff_not]
      intro ad
      have d:b∈A++i::B:=by
       rcases Od.1 g with h | h
       ·exact Ow _ h
       ·exact P4 _ (Nk _ h)
      have l:b<L.length:=by rw [pl.len];exact ((ht.mem b).1 d).1
      have f:L[b]? = some (L.getD b default):=by rw [Na,Nf l];rfl
      have:=pl.inj b i _ _ r f k z ad
      subst this
      rcases Od.1 g with h | h
      ·exact q h
      ·exact s h
    ·obtain ⟨b,g,z⟩:=List.mem_filterMap.1 hr
     have d:b∈A++i::B:=by
      rcases Od.1 g with h | h
      ·exact Ow _ h
      ·exact P4 _ (Nk _ h)
     have l:b<L.length:=by rw [pl.len];exact ((ht.mem b).1 d).1
     have f:L[b]? = some (L.getD b default):=by rw [Na,Nf l];rfl
     exact pl.dest b _ r f (Nbl z)
end
end Go.AM


