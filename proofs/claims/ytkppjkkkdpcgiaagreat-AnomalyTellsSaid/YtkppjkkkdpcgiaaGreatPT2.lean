/-
  Joined texts, 2 of 11. A part of the claim that the last text states.
-/
import Derived.RangeFuncRecord
import Derived.OrdersIn
import Derived.Test.YtkppjkkkdpcgiaaGreatPT1
set_option linter.unusedVariables false
set_option linter.unusedSimpArgs false
set_option linter.defProp false
set_option linter.unusedSectionVars false
set_option maxRecDepth 100000
set_option maxHeartbeats 4000000
namespace Go.AM
open Go.MapKept
section
variable {P:Program} {pureF:FuncId->Bool} {Pg:Prg} {W:Nat->Prop} {lim:Nat} {σ:PO} {H H':NA} {w:World} {dest:Option Nat} {ρ ρ':Operand->Value} {v:Value}
variable {ao:AOp} {o:Oper}
theorem OM {α β:Type} {x:Option α} {f:α->Option β} {b:β} (h:(x >>= f)=some b):∃a,x=some a/\f a=some b:=by
 cases x with
 | none=>cases h
 | some a=>exact ⟨a,rfl,h⟩
theorem Ng6 {A:Bool} {c:Call} (q:o.op=.call c) {b:Builtin} (G:c.callee=.builtin b) (f:Na8 P pureF A o=some ao) (i:Inv Pg W lim σ H w)
  (U:∀x,QB x=true->VRel σ (ρ x) (ρ' x)) (hd:∀d,dest=some d->d<H.length/\σ d=none) (g:NL lim dest ao ρ H=some (v,H')):OZ Pg W lim σ dest H w ((execOp ρ' o).run P w) v H':=by
 have m:=Nkn (ρ':=ρ') o c b q G;unfold Na8 at f;split at f
 ·cases f
 rename_i C;simp only [Bool.not_eq_true,Bool.not_eq_false'] at C;have j:∀x∈c.args.toList,VRel σ (ρ x) (ρ' x):=fun x g=>U x (Nmg (by simpa using C) (by
  rw [q];simp only [Op.operands,Call.operands,G];simpa using g))
 rw [q] at f;simp only [G] at f;cases b<;>simp only at f<;>try (cases f;done)
 case append=>
  split at f
  case h_2=>cases f
  rename_i s x st T e1 e2;have B:c.argTypes=#[st,T]:=by apply Array.ext';simpa using e2
  have hs:=j s (by simp [e1]);have k:=j x (by simp [e1]);have E:∀(ty:TypeId),(execOp ρ' o).run P w=((Builtin.append_ #[st,T] o.type #[ρ' s,ρ' x]).run P w).andThen fun v w'=>.ok (.value v) w':=by
   intro _;rw [m,N3j e1,B];simp [builtin]
  split at f
  ·rename_i e S M N;obtain ⟨n,hn,f⟩:=OM f;obtain ⟨bb,I,f⟩:=OM f;obtain ⟨z,u,f⟩:=OM f;split at f
   case isFalse=>cases f
   rename_i Q;cases f;simp only [NL] at g;exact Nku i hd (ty:=o.type) M (str:=false) (by simpa using ⟨_,N⟩) hn I u Q hs k g (E 0)
  ·cases f
 case clear=>
  split at f
  case h_2=>cases f
  rename_i x t rest e1 e2;split at f
  case h_2=>cases f
  rename_i e D;simp only [Nd] at f;obtain ⟨z,u,rfl⟩:=f;obtain ⟨w',V,rfl,X,Y,Z⟩:=Noa (P:=P) (ty:=o.type) i (Na6 e2) D u (j x (by simp [e1])) g;refine OZ.wrote i (nx:=.value (.tuple #[])) ?_ rfl (.atom rfl) X Y Z;rw [m,Ngf e1];exact VD _ _ _ _ _ _ rfl V
 case cap=>
  split at f
  case h_2=>cases f
  rename_i x t e1 e2;have k:=j x (by simp [e1]);have F:c.argTypes[0]? = some t:=Na6 e2;split at f
  ·rename_i e D;cases f;simp only [NL] at g;split at g
   case h_2=>cases g
   rename_i a n cc hs;split at g
   case isFalse=>cases g
   rename_i p;cases g;rw [hs] at k;have:∃a' n',ρ' x=.slice a' n' cc:=by
    cases a with
    | none=>obtain ⟨rfl,rfl,h⟩:=k.nilslice_left;exact ⟨_,_,h⟩
    | some a=>
      obtain ⟨_,L,_,⟨_,h⟩ | ⟨S,K,_,_,_,h⟩ | ⟨_,J,rfl,h⟩⟩:=k.slice_left
      ·exact ⟨_,_,h⟩
      ·exfalso;rw [K] at p;unfold loose at p;omega
      ·rcases J with rfl | ⟨S,rfl⟩
       ·exact ⟨_,_,h⟩
       ·exfalso;unfold loose at p;omega
   obtain ⟨a',n',h⟩:=this;refine OZ.plain i (v':=.int .i64 cc) ?_ (.atom rfl);rw [m,Ngf e1];refine VD _ _ _ _ _ _ rfl ?_;rw [h];simp [Builtin.cap_,F,run_underlying D,goInt]
  ·cases f
 case len=>
  split at f
  case h_2=>cases f
  rename_i x t e1 e2;have k:=j x (by simp [e1]);have F:c.argTypes[0]? = some t:=Na6 e2;split at f
  ·rename_i e D;cases f;simp only [NL] at g;split at g
   case h_2=>cases g
   rename_i a n cc hs;cases g;rw [hs] at k;have:∃a' c',ρ' x=.slice a' n c':=by
    cases a with
    | none=>obtain ⟨rfl,rfl,h⟩:=k.nilslice_left;exact ⟨_,_,h⟩
    | some a=>
      obtain ⟨_,L,_,⟨_,h⟩ | ⟨_,_,_,_,_,h⟩ | ⟨_,_,rfl,h⟩⟩:=k.slice_left
      ·exact ⟨_,_,h⟩
      ·exact ⟨_,_,h⟩
      ·exact ⟨_,_,h⟩
   obtain ⟨a',c',h⟩:=this;refine OZ.plain i (v':=.int .i64 n) ?_ (.atom rfl);rw [m,Ngf e1];exact VD _ _ _ _ _ _ rfl ((N57 F).2.1 ⟨e,D⟩ _ _ _ h)
  ·cases f
 case max=>
  cases f;simp only [NL] at g;split at g
  ·cases g
  rename_i x r l;simp only [Nd,Prod.mk.injEq] at g;obtain ⟨z,u,rfl,rfl⟩:=g;obtain ⟨R,h1,h2⟩:=VI (P:=P) (w:=w) (σ:=σ) true (r.map ρ) (r.map ρ') (ρ x) (ρ' x) z (j x (by simp [l])) (VX fun y O=>j y (by simp [l,O])) u;refine OZ.plain i (v':=R) ?_ h2;rw [m];refine VD _ _ _ _ _ _ rfl ?_;have:(c.args.map ρ').toList=ρ' x::r.map ρ':=by simp [l]
  unfold Builtin.max_;rw [this];exact h1
 case min=>
  cases f;simp only [NL] at g;split at g
  ·cases g
  rename_i x r l;simp only [Nd,Prod.mk.injEq] at g;obtain ⟨z,u,rfl,rfl⟩:=g;obtain ⟨R,h1,h2⟩:=VI (P:=P) (w:=w) (σ:=σ) false (r.map ρ) (r.map ρ') (ρ x) (ρ' x) z (j x (by simp [l])) (VX fun y O=>j y (by simp [l,O])) u;refine OZ.plain i (v':=R) ?_ h2;rw [m];refine VD _ _ _ _ _ _ rfl ?_;have:(c.args.map ρ').toList=ρ' x::r.map ρ':=by simp [l]
  unfold Builtin.min_;rw [this];exact h1
theorem Nxd {aa:Bool} (g:Na8 P pureF aa o=some ao) (A:Inv Pg W lim σ H w) (hρ:∀x,QB x=true->VRel σ (ρ x) (ρ' x)) (hd:∀d,dest=some d->d<H.length/\σ d=none)
  (u:NL lim dest ao ρ H=some (v,H')):OZ Pg W lim σ dest H w ((execOp ρ' o).run P w) v H':=by
 obtain ⟨dst,op,type,pos,after,guard⟩:=o;by_cases O:∃c,op=.call c
 ·obtain ⟨c,rfl⟩:=O;by_cases S:∃b,c.callee=.builtin b
  ·obtain ⟨b,S⟩:=S;exact Ng6 (o:=⟨dst,.call c,type,pos,after,guard⟩) rfl S g A hρ hd u
  ·unfold Na8 at g;split at g
   ·cases g
   simp only at g;cases hc:c.callee with
   | builtin b=>exact absurd ⟨b,hc⟩ S
   | value f=>rw [hc] at g;simp at g;subst g;simp [NL] at u
   | invoke r m=>rw [hc] at g;simp at g
 unfold Na8 at g;split at g
 ·cases g
 rename_i an;simp only [Bool.not_eq_true,Bool.not_eq_false'] at an;have C:∀x∈op.operands,VRel σ (ρ x) (ρ' x):=fun x u=>hρ x (Nmg (o:=⟨dst,op,type,pos,after,guard⟩) (by simpa using an) u)
 cases op<;>(try simp only at g)<;>try (cases g;done)
 case call c=>exact absurd ⟨c,rfl⟩ O
 case move x=>
  cases g;simp only [NL] at u;cases u;exact OZ.plain A (v':=ρ' x) rfl (C x (by simp [Op.operands]))
 case assign x=>
  cases g;simp only [NL] at u;cases u;exact OZ.plain A (v':=ρ' x) rfl (C x (by simp [Op.operands]))
 case pick c a b=>
  cases g;simp only [NL] at u;have hc:=C c (by simp [Op.operands]);split at u
  ·rename_i h;cases u;rw [h] at hc;exact OZ.plain A (v':=ρ' a) (by simp [execOp,hc.bool_left,asBool]) (C a (by simp [Op.operands]))
  ·rename_i h;cases u;rw [h] at hc;exact OZ.plain A (v':=ρ' b) (by simp [execOp,hc.bool_left,asBool]) (C b (by simp [Op.operands]))
  ·cases u
 case alloc e=>
  simp only [Nd] at g;obtain ⟨z,T,rfl⟩:=g;exact Nok A hd T u _ rfl
 case box e x=>
  cases g;exact Nwz A hd (C x (by simp [Op.operands])) u _ rfl
 case build t parts=>
  obtain ⟨z,T,g⟩:=OM g;split at g
  ·rename_i fs F;obtain ⟨ps,a3,g⟩:=OM g;split at g
   case isFalse=>cases g
   rename_i ae;cases g;exact MB A F T a3 ae hρ u _ rfl
  ·rename_i n e F;obtain ⟨s,hs,g⟩:=OM g;cases g;exact Nau A F T hs (fun x u=>C x.2 (by simp only [Op.operands];simp;exact ⟨x.1,by simpa using u⟩)) u _ rfl
  ·cases g
 case buildSlice t len parts=>
  split at g
  ·rename_i e F;obtain ⟨s,hs,g⟩:=OM g;obtain ⟨z,T,g⟩:=OM g;split at g
   ·cases g
   rename_i E;cases g;exact Nb5 A hd F T hs (Oe fun h=>E (.inl h)) (fun h=>E (.inr (.inl h))) (Nat.le_of_not_lt fun h=>E (.inr (.inr h)))
    (fun x u=>C x.2 (by simp only [Op.operands];simp;exact ⟨x.1,by simpa using u⟩)) u _ rfl
  ·cases g
 case load t a=>
  obtain ⟨ag,N,g⟩:=OM g;have U:=C a (by simp [Op.operands]);cases ag with
  | true=>
    simp only [if_true,Nd] at g;obtain ⟨n,hn,rfl⟩:=g;simp only [NL] at u;split at u
    case h_2=>cases u
    rename_i p hp;simp only [Nd,Prod.mk.injEq] at u;obtain ⟨c,hc,rfl,rfl⟩:=u;rw [hp] at U;obtain ⟨L,hL,G,h2⟩:=U.ptr_left;obtain ⟨v',X,h4⟩:=Nco (P:=P) A N hn hL hc;refine OZ.plain A (v':=v') ?_ h4;simp only [execOp];refine QA P w _ ?_;simp [Instr.loadAt,Instr.sureAddr,h2,X]
  | false=>
    simp only [N3,if_false,Option.some.injEq] at g;subst g;simp only [NL] at u;split at u
    case h_2=>cases u
    rename_i p hp;simp only [Nd,Prod.mk.injEq] at u;obtain ⟨c,hc,rfl,rfl⟩:=u;rw [hp] at U;obtain ⟨L,hL,G,h2⟩:=U.ptr_left;obtain ⟨v',X,h4⟩:=Ncp (P:=P) A N hL hc;refine OZ.plain A (v':=v') ?_ h4;simp only [execOp];refine QA P w _ ?_;simp [Instr.loadAt,Instr.sureAddr,h2,X]
 case store t a x=>
  simp only [Nd] at g;obtain ⟨n,hn,rfl⟩:=g;have U:=C a (by simp [Op.operands]);have B:=C x (by simp [Op.operands]);simp only [NL] at u;split at u
  case h_2=>cases u
  rename_i p hp;split at u
  case isFalse=>cases u
  rename_i E;simp only [Nd,Prod.mk.injEq] at u;obtain ⟨H2,a5,rfl,rfl⟩:=u;rw [hp] at U;obtain ⟨L,hL,G,h2⟩:=U.ptr_left;obtain ⟨w',q1,q2,q3,q4⟩:=A.store (P:=P) hL a5 B.cells (B.cells_one E.2);refine OZ.wrote A (nx:=.skip) ?_ rfl (.atom rfl) q2 q3 q4;simp only [execOp];refine Nef P w _ ?_;have a6:(ρ' x).cells.size=n:=by have:=B.cells.1;simp at this;rw [<-this];exact E.1
  simp [Instr.storeAt,Instr.sureAddr,h2,storeVar,Tt hn,a6,q1]
 case nilCheck x=>
  cases g;have B:=C x (by simp [Op.operands]);simp only [NL] at u;split at u
  ·rename_i p hp;cases u;rw [hp] at B;obtain ⟨L,hL,G,h2⟩:=B.ptr_left;exact OZ.plain A (v':=ρ' x) (by simp [execOp,h2]) B
  ·rename_i f a b hp;cases u;rw [hp] at B;obtain ⟨c,d,h2,_,_⟩:=B.func_left;exact OZ.plain A (v':=ρ' x) (by simp [execOp,h2]) B
  ·cases u
 case binOp op t x y yt=>
  have B:=C x (by simp [Op.operands]);have Q:=C y (by simp [Op.operands]);have bin:∀{r},NL lim dest (.bin op x y) ρ H=some (v,r)->OZ Pg W lim σ dest H w ((execOp ρ' ⟨dst,.binOp op t x y yt,type,pos,after,guard⟩).run P w) v r:=by
   intro r u;simp only [NL,Nd,Prod.mk.injEq] at u;obtain ⟨c,hc,rfl,rfl⟩:=u;have M:ρ' x=ρ x/\ρ' y=ρ y/\VRel σ c c:=by
    have D:=hc;unfold NH at D;split at D
    ·rename_i k a k' b e1 e2;rw [e1] at B;rw [e2] at Q;refine ⟨by rw [B.int_left,e1],by rw [Q.int_left,e2], ?_⟩;have:atom c=true:=by
      split at D
      ·split at D<;>cases D<;>rfl
      ·split at D<;>cases D<;>rfl
      ·split at D
       ·cases op<;>simp at D<;>first | (subst D;rfl) | (obtain ⟨_,rfl⟩:=D;rfl)
       ·cases D
     exact .atom this
    ·rename_i a b e1 e2;rw [e1] at B;rw [e2] at Q;refine ⟨by rw [B.string_left,e1],by rw [Q.string_left,e2], ?_⟩;have:atom c=true:=by
      cases op<;>simp at D<;>first | (subst D;rfl) | (obtain ⟨_,rfl⟩:=D;rfl)
     exact .atom this
    ·cases D
   refine OZ.plain A (v':=c) ?_ M.2.2;simp only [execOp];refine QA P w _ ?_;rw [M.1,M.2.1];exact Nsd op t x y hc
  have ab:∀{neg:Bool} {k:EqKind} {r},op=(if neg then .neq else .eql)->U1 P t=some k->NL lim dest (.eqv neg k x y) ρ H=some (v,r)->
    OZ Pg W lim σ dest H w ((execOp ρ' ⟨dst,.binOp op t x y yt,type,pos,after,guard⟩).run P w) v r:=by
   intro neg k r aq hk u;simp only [NL] at u;split at u
   case h_2=>cases u
   rename_i b S;cases u;refine OZ.plain A (v':=.bool (if neg then !b else b)) ?_ (.atom rfl);simp only [execOp,aq];exact QA P w _ (Nxf w neg hk x y B Q S)
  split at g
  ·cases g;exact bin u
  ·cases g;exact bin u
  ·split at g
   ·simp only [Nd] at g;obtain ⟨k,hk,rfl⟩:=g;exact ab (neg:=false) rfl hk u
   ·simp only [Nd] at g;obtain ⟨k,hk,rfl⟩:=g;exact ab (neg:=true) rfl hk u
   ·cases g
 case unOp op t x=>
  cases g;have B:=C x (by simp [Op.operands]);simp only [NL,Nd,Prod.mk.injEq] at u;obtain ⟨c,hc,rfl,rfl⟩:=u;have M:ρ' x=ρ x/\VRel σ c c:=by
   have D:=hc;unfold RN at D;split at D
   ·rename_i b e1;rw [e1] at B;cases D;exact ⟨by rw [B.bool_left,e1],.atom rfl⟩
   ·rename_i k n e1;rw [e1] at B;cases D;exact ⟨by rw [B.int_left,e1],.atom rfl⟩
   ·rename_i k n e1;rw [e1] at B;cases D;exact ⟨by rw [B.int_left,e1],.atom rfl⟩
   ·cases D
  refine OZ.plain A (v':=c) ?_ M.2;simp only [execOp];refine QA P w _ ?_;rw [M.1];exact Nxb op hc
 case convert s d x=>
  have B:=C x (by simp [Op.operands]);split at g
  ·rename_i k' k hs ax;cases g;simp only [NL] at u;split at u
   case h_2=>cases u
   rename_i q n hq;cases u;rw [hq] at B;refine OZ.plain A (v':=.int k (k.wrap n)) ?_ (.atom rfl);simp only [execOp];refine QA P w _ ?_;rw [B.int_left];simp [convert,run_underlying hs,run_underlying ax,Conv.intToInt]
  ·cases g
 case makeFunc fn first captured=>
  cases fn<;>simp only at g<;>try (cases g;done)
  rename_i f;cases g;simp only [NL] at u;cases u;refine OZ.plain A (v':=.func (.func f) (first.map ρ') (captured.map ρ')) rfl ?_;have key:∀(l:Array Operand),(∀x∈l,VRel σ (ρ x) (ρ' x))->∀i (h:i<((l.toList.map ρ).toArray).size) (h':i<(l.map ρ').size),VRel σ ((l.toList.map ρ).toArray)[i] (l.map ρ')[i]:=fun l hl i h h'=>by
   simp only [List.getElem_toArray,Qw,Array.getElem_map,Array.getElem_toList];exact hl _ (Array.getElem_mem _)
  exact .func (by simp) (by simp) (key first fun x u=>C x (by simp [Op.operands,u])) (key captured fun x u=>C x (by simp [Op.operands,u]))
 case makeMap t r=>
  split at g
  ·rename_i kt e F;cases g;simp only [NL] at u;split at u
   case h_2=>cases u
   rename_i hr;cases hp:place dest (.map []) H with
   | mk k K=>
   rw [hp] at u;cases u;obtain ⟨i1,i2⟩:=A.allocMap hp hd;obtain ⟨g1,g2,g3,g4,g5,g6,g7⟩:=Ud hp fun d e=>(hd d e).1
   refine ⟨.value (.map (some w.heap.size)),_,_,_, ?_,rfl,VRel.map PO.put_same,i1,Stp.alloc A.fresh _,PO.le_put i2,fun j V=>?_,g3,fun ay=>?_⟩
   ·simp only [execOp];refine QA P w _ ?_;cases r with
    | none=>simp [Instr.makeMap]
    | some x=>
      have B:=C x (by simp [Op.operands]);cases hxx:ρ x<;>simp [hxx] at hr;rw [hxx] at B;simp [Instr.makeMap,B.int_left,run_underlying F,asInt,asIntOf]
   ·by_cases e:j=k
    ·subst e;cases dest with
     | none=>exact .inr ⟨rfl,by rw [g5 rfl];exact Nf _⟩
     | some d=>exact .inl (by rw [(g6 d rfl).1])
    ·simp [PO.put,e] at V
   ·cases dest with
    | none=>exact absurd rfl ay
    | some d=>exact (g6 d rfl).2
  ·cases g
 case makeSlice t l c=>
  split at g
  ·rename_i e F;obtain ⟨s,hs,g⟩:=OM g;obtain ⟨bb,S,g⟩:=OM g;obtain ⟨z,T,g⟩:=OM g;split at g
   ·cases g
   rename_i E;cases g;have a9:z.length=s:=Oe fun h=>E (.inl h)
   have bd:s≠0:=fun h=>E (.inr h)
   obtain ⟨i,I,hi,ba,rfl,au⟩:=Ve T;obtain ⟨i2,aj,a0⟩:=Nbb hs;rw [hi] at aj;cases aj;obtain ⟨i3,ak,az⟩:=Nf7 S;rw [hi] at ak;cases ak;subst a0 az;have am:=C l (by simp [Op.operands]);have ai:=C c (by simp [Op.operands]);simp only [NL] at u;split at u
   case h_2=>cases u
   rename_i kl ln kc Y hl hc;split at u
   case isFalse=>cases u
   rename_i av;obtain ⟨b1,b2,b3,b4⟩:=av;cases hp:place dest (.cells false ((List.range (Y.toNat*i.size)).map fun j=>I.cells.toList.getD (j % I.cells.toList.length) undef)) H with
   | mk k K=>
   rw [hp] at u;cases u;rw [hl] at am;rw [hc] at ai;have R:∀j,VRel σ (I.cells.toList.getD (j % I.cells.toList.length) undef) (I.cells[j % I.cells.size]!)/\(I.cells[j % I.cells.size]!).oneCell'=true:=fun j=>by
    have V:j % I.cells.size<I.cells.size:=P6 _ (by simp at a9;omega);have e1:I.cells.toList.getD (j % I.cells.toList.length) undef=I.cells[j % I.cells.size]:=by
     rw [Nb,Array.length_toList,Array.getElem?_toList,Of V];rfl
    have e2:I.cells[j % I.cells.size]! = I.cells[j % I.cells.size]:=by simp [V]
    rw [e1,e2];have:=au _ (Array.mem_toList_iff.2 (Array.getElem_mem V));exact ⟨.atom this.1,this.2⟩
   refine OZ.made A hd hp (cs:=madeCells I.cells (Y.toNat*i.size)) (el:=e) (fun j y V=>?_) (by simp [size_madeCells]) A (Stp.refl _ _) (v':=.slice (some ⟨w.heap.size,0,none⟩) ln.toNat Y.toNat) ?_ ?_
   ·rw [Pk] at V;simp only [Nd] at V;obtain ⟨j',Z,rfl⟩:=V;have al:j<Y.toNat*i.size:=by simpa using (List.getElem?_eq_some_iff.1 Z).1
    rw [List.getElem?_range al] at Z;cases Z;exact ⟨I.cells[j % I.cells.size]!,by simp [madeCells,al],(R j).1,(R j).2⟩
   ·simp only [execOp];refine QA P w _ ?_;rw [am.int_left,ai.int_left];exact run_make w t e i I F hi ba kl kc ln Y b1 b2 (by rw [Int.mul_comm];omega) (by omega)
   ·have ad:Y.toNat<2 ^ 62:=by omega
    simpa using VRel.slice (σ:=σ.put k ⟨w.heap.size,0,(madeCells I.cells (Y.toNat*i.size)).size⟩) (i:=k) (k:=0) (n:=ln.toNat) PO.put_same ad
  ·cases g
 case slice t x lo hi mx=>
  have B:=C x (by simp [Op.operands]);have ah:∀y∈lo.toList++hi.toList++mx.toList,VRel σ (ρ y) (ρ' y):=fun y hy=>C y (by
   simp only [Op.operands];simp at hy⊢;rcases hy with h | h | h<;>simp [h])
  split at g
  ·rename_i e F;obtain ⟨s,hs,g⟩:=OM g;split at g
   ·cases g
   cases g;simp only [NL,Nd,Prod.mk.injEq] at u;obtain ⟨c,hc,rfl,rfl⟩:=u;obtain ⟨v',q1,q2⟩:=Njf (P:=P) (w:=w) F hs B ah hc;refine OZ.plain A (v':=v') ?_ q2;simp only [execOp];exact QA P w _ q1
  ·rename_i n e F;obtain ⟨s,hs,g⟩:=OM g;split at g
   ·cases g
   cases g;simp only [NL] at u;split at u
   case h_2=>cases u
   rename_i a U;split at u
   case h_2=>cases u
   rename_i l h' m S;split at u
   case isFalse=>cases u
   rename_i ad;cases u;rw [U] at B;obtain ⟨L,hL,G,h2⟩:=B.ptr_left;obtain ⟨m',r1,r2,r3,r4,r5,r6,r7⟩:=Ug (P:=P) (w:=w) S ah (Nf _) false;have hm:m'=m:=by
    by_cases e:mx=none
    ·rw [(r2 e).1,(r2 e).2]
    ·exact r3 e
   subst hm;refine OZ.plain A (v':=.slice (some (if m'=l then ⟨L.blk,L.base+a.off,none⟩ else (⟨L.blk,L.base+a.off,none⟩:Addr).add (l*s))) (h'-l) (m'-l)) ?_ ?_
   ·simp only [execOp];refine QA P w _ ?_;rw [h2];simp [Instr.sliceAt,run_underlying F,Instr.sureAddr,r1,Tt hs]
   ·split
    ·exact VRel.slice' G hL (by omega)
    ·rw [Uh a _ G,Uh _ _ rfl];have:=VRel.slice (σ:=σ) (i:=a.block) (k:=a.off+l*s) (n:=h'-l) (c:=m'-l) hL (by omega);rw [<-Pq] at this;exact this
  ·cases g
 case fieldAddr s x f=>
  have B:=C x (by simp [Op.operands]);split at g
  ·rename_i fs F;obtain ⟨fd,hf,g⟩:=OM g;obtain ⟨n,hn,g⟩:=OM g;split at g
   ·cases g
   rename_i h0;cases g;simp only [NL] at u;split at u
   case h_2=>cases u
   rename_i p hp;cases u;rw [hp] at B;obtain ⟨L,hL,G,h2⟩:=B.ptr_left;refine OZ.plain A ?_ (VRel.ptr_add hL G fd.offset);simp only [execOp];refine QA P w _ ?_;rw [h2];exact Nlt F hf hn h0 _
  ·cases g
 case indexAddr t x ix=>
  have B:=C x (by simp [Op.operands]);have J:=C ix (by simp [Op.operands]);split at g
  ·rename_i e F;obtain ⟨s,hs,g⟩:=OM g;cases g;simp only [NL] at u;split at u
   case h_2=>cases u
   rename_i p len cap k n hp hi;split at u
   case isFalse=>cases u
   rename_i hn;cases u;rw [hp] at B;rw [hi] at J;obtain ⟨G,L,hL,hc⟩:=B.slice_left;have a8:∃c',ρ' x=.slice (some ⟨L.blk,L.base+p.off,none⟩) len c':=by
    rcases hc with ⟨_,h⟩ | ⟨_,_,_,_,_,h⟩ | ⟨_,_,h0,h⟩
    ·exact ⟨_,h⟩
    ·exact ⟨_,h⟩
    ·rw [h0] at hn;simp at hn;omega
   obtain ⟨c',h2⟩:=a8;refine OZ.plain A ?_ (VRel.ptr_add hL G (n.toNat*s));simp only [execOp];refine QA P w _ ?_;rw [h2,J.int_left];exact Mv F hs _ len c' k n hn
  ·rename_i len e F;obtain ⟨s,hs,g⟩:=OM g;cases g;simp only [NL] at u;split at u
   case h_2=>cases u
   rename_i p k n hp hi;split at u
   case isFalse=>cases u
   rename_i hn;cases u;rw [hp] at B;rw [hi] at J;obtain ⟨L,hL,G,h2⟩:=B.ptr_left;refine OZ.plain A ?_ (VRel.ptr_add hL G (n.toNat*s));simp only [execOp];refine QA P w _ ?_;rw [h2,J.int_left];exact Mw F hs _ k n hn
  ·cases g
 case index t x ix=>
  have B:=C x (by simp [Op.operands]);have J:=C ix (by simp [Op.operands]);split at g
  ·rename_i len e F;obtain ⟨s,hs,g⟩:=OM g;obtain ⟨ag,N,g⟩:=OM g;cases g;simp only [NL] at u;split at u
   case h_2=>cases u
   rename_i cs k n aw hi;split at u
   case isFalse=>cases u
   rename_i hn;rw [aw] at B;rw [hi] at J;obtain ⟨ys,h2,X,h4⟩:=B.agg_left;cases ag with
   | true=>
     simp only [if_true] at u;cases u;refine OZ.plain A (v':=.agg (ys.extract (n.toNat*s) (n.toNat*s+s))) ?_ (VRel.agg_iff.2 ⟨?_, ?_⟩)
     ·simp only [execOp];refine QA P w _ ?_;rw [h2,J.int_left,Xp F hs ys k n hn];exact Nhp N hs
     ·rw [extract_toList];simpa using (X.drop (n.toNat*s)).take s
     ·rw [extract_toList];exact fun y hy=>h4 y (List.mem_of_mem_drop (Rf hy))
   | false=>
     simp only [N3,if_false,Nd,Prod.mk.injEq] at u;obtain ⟨c,hc,rfl,rfl⟩:=u;obtain ⟨y,h5,h6⟩:=X.get hc;refine OZ.plain A (v':=y) ?_ h6;simp only [execOp];refine QA P w _ ?_;rw [h2,J.int_left,Xp F hs ys k n hn];exact Nhq N (by simpa using h5)
  ·cases g
 case lookup t m k ok=>
  split at g
  ·rename_i kt e F;obtain ⟨z,T,g⟩:=OM g;obtain ⟨kk,hk,g⟩:=OM g;cases g;exact Nj7 A F hk T (C m (by simp [Op.operands])) (C k (by simp [Op.operands])) u _ rfl
  ·cases g
 case mapUpdate t m k x=>
  split at g
  ·rename_i kt e F;simp only [Nd] at g;obtain ⟨kk,hk,rfl⟩:=g;obtain ⟨w',q1,q2,q3,q4,rfl⟩:=ZX (P:=P) A F hk (C m (by simp [Op.operands])) (C k (by simp [Op.operands])) (C x (by simp [Op.operands])) u;refine OZ.wrote A (nx:=.skip) ?_ rfl (.atom rfl) q2 q3 q4;simp only [execOp];exact Nef P w _ q1
  ·cases g
 case insert t m k x=>
  split at g
  ·rename_i kt e F;simp only [Nd] at g;obtain ⟨kk,hk,rfl⟩:=g;obtain ⟨w',q1,q2,q3,q4,rfl⟩:=ZX (P:=P) A F hk (C m (by simp [Op.operands])) (C k (by simp [Op.operands])) (C x (by simp [Op.operands])) u;refine OZ.wrote A (nx:=.skip) ?_ rfl (.atom rfl) q2 q3 q4;simp only [execOp];exact Nef P w _ q1
  ·cases g
 case extract x ix=>
  have B:=C x (by simp [Op.operands]);cases g;simp only [NL] at u;split at u
  case h_2=>cases u
  rename_i vs a7;simp only [Nd,Prod.mk.injEq] at u;obtain ⟨c,hc,rfl,rfl⟩:=u;rw [a7] at B;obtain ⟨ys,h2,X⟩:=B.tuple_left;obtain ⟨y,h5,h6⟩:=X.get hc;refine OZ.plain A (v':=y) ?_ h6;simp only [execOp];refine QA P w _ ?_;rw [h2];have ar:ys[ix]? = some y:=by simpa using h5
  simp [Instr.extract,ar]
end
end Go.AM



namespace Go.AM
variable {A X B H H':NA} {r d j n:Nat} {ro dest:Option Nat} {a:Addr} {v:Value} {o:AOp} {f:FuncId} {vs:List Value} {R:Ending->World->Prop} {ρ:Operand->Value} {b:Blk} {w:World} {P:Program}
theorem PG (base:Nat):∀(l:List Nat) (H:NA),(OI base l H).length=H.length
 | [],_=>rfl
 | i::l,H=>by simp only [OI,O1];exact (PG base l _).trans (by simp)
theorem PQ (base:Nat) (H0:NA):∀(l:List Nat) (H:NA),(OE base l H0 H).length=H.length
 | [],_=>rfl
 | i::l,H=>by simp only [OE,O1];exact (PQ base H0 l _).trans (by simp)
theorem QT (base:Nat) {j:Nat}:∀(l:List Nat) (H:NA),(∀i∈l,base+i≠j)->(OI base l H)[j]? = H[j]?
 | [],_,_=>rfl
 | i::l,H,h=>by
   simp only [OI,O1];have:=QT base (j:=j) l (H.set (base+i) .dead) fun k hk=>h k (Nr _ hk)
   simp only [OI] at this;rw [this,Ob,Ng (h i Nu)]
theorem V4 (base:Nat) {j:Nat}:∀(l:List Nat) (H:NA),(∃i∈l,base+i=j)->j<H.length->(OI base l H)[j]? = some .dead
 | [],_,h,_=>by simp at h
 | i::l,H,h,hj=>by
   simp only [OI,O1];by_cases hl:∃k∈l,base+k=j
   ·exact V4 base l _ hl (by simpa using hj)
   ·have a:base+i=j:=by
     obtain ⟨k,hk,e⟩:=h;rcases Ns.1 hk with rfl | hk
     ·exact e
     ·exact absurd ⟨k,hk,e⟩ hl
    have:=QT base (j:=j) l (H.set (base+i) .dead) fun k hk e=>hl ⟨k,hk,e⟩
    simp only [OI] at this;rw [this,Ob,Nl a,Nl (by omega)]
theorem Ry (base:Nat) (H0:NA) {j:Nat}:∀(l:List Nat) (H:NA),(∀i∈l,base+i≠j)->(OE base l H0 H)[j]? = H[j]?
 | [],_,_=>rfl
 | i::l,H,h=>by
   simp only [OE,O1];have:=Ry base H0 (j:=j) l (H.set (base+i) (NE H0 (base+i))) fun k hk=>h k (Nr _ hk)
   simp only [OE] at this;rw [this,Ob,Ng (h i Nu)]
theorem Sc (base:Nat) (H0:NA) {j:Nat}:∀(l:List Nat) (H:NA),(∃i∈l,base+i=j)->j<H.length->(OE base l H0 H)[j]? = some (NE H0 j)
 | [],_,h,_=>by simp at h
 | i::l,H,h,hj=>by
   simp only [OE,O1];by_cases hl:∃k∈l,base+k=j
   ·exact Sc base H0 l _ hl (by simpa using hj)
   ·have a:base+i=j:=by
     obtain ⟨k,hk,e⟩:=h;rcases Ns.1 hk with rfl | hk
     ·exact e
     ·exact absurd ⟨k,hk,e⟩ hl
    have:=Ry base H0 (j:=j) l (H.set (base+i) (NE H0 (base+i))) fun k hk e=>hl ⟨k,hk,e⟩
    simp only [OE] at this;rw [this,Ob,Nl a,Nl (by omega),a]
theorem ZH (h:j<H.length):H[j]? = some (NE H j):=by
 unfold NE;rw [Nb,Ni h];rfl
theorem Tg (base:Nat) (l:List Nat) (H:NA):OE base l H (OI base l H)=H:=by
 apply List.ext_getElem?;intro j;by_cases b:j<H.length
 ·by_cases hl:∃i∈l,base+i=j
  ·rw [Sc base H l _ hl (by rw [PG];exact b),ZH b]
  ·have a:∀i∈l,base+i≠j:=fun i hi e=>hl ⟨i,hi,e⟩
   rw [Ry base H l _ a,QT base l _ a]
 ·rw [N0 (by rw [PQ,PG];omega),N0 (by omega)]
theorem N0c (base:Nat) (l:List Nat) (H:NA) (hr:r∈l) (b:Blk):OI base l (H.set (base+r) b)=OI base l H:=by
 apply List.ext_getElem?;intro j;by_cases c:j<H.length
 ·by_cases hl:∃i∈l,base+i=j
  ·rw [V4 base l _ hl (by simpa using c),V4 base l _ hl c]
  ·have a:∀i∈l,base+i≠j:=fun i hi e=>hl ⟨i,hi,e⟩
   rw [QT base l _ a,QT base l _ a,Ob,Ng (a r hr)]
 ·rw [N0 (by rw [PG];simp;omega),N0 (by rw [PG];omega)]
theorem Nla (base:Nat) (l:List Nat) (H X:NA) (hr:r∈l) (b:Blk) (d:base+r<H.length) (f:H.length<=X.length):OE base l (H.set (base+r) b) X=(OE base l H X).set (base+r) b:=by
 apply List.ext_getElem?;intro j;by_cases c:j<X.length
 ·by_cases hl:∃i∈l,base+i=j
  ·rw [Sc base _ l X hl c,Ob];by_cases he:base+r=j
   ·subst he;rw [Nl rfl,Nl (by rw [PQ];exact c)];unfold NE;rw [Nb,Rc d];rfl
   ·rw [Ng he,Sc base H l X hl c];unfold NE;rw [Nb,Qr he,<-Nb]
  ·have a:∀i∈l,base+i≠j:=fun i hi e=>hl ⟨i,hi,e⟩
   rw [Ry base _ l X a,Qr (a r hr),Ry base H l X a]
 ·rw [N0 (by rw [PQ];omega),N0 (by rw [Py,PQ];omega)]
theorem Vm:place (some d) b H=(d,H.set d b):=rfl
theorem Ndr (hk:kind o=.p) (lim:Nat) (dest:Option Nat) (ρ:Operand->Value) (H:NA) :
  NL lim dest o ρ H=((NL lim dest o ρ []).map (·.1)).map (·,H):=by
 cases o<;>simp [kind] at hk<;>simp only [NL]
 case mov=>rfl
 case lenK=>rfl
 case makeFunc=>rfl
 case pick c a b=>cases ρ c<;>first | rfl | (rename_i b;cases b<;>rfl)
 case bin op x y=>cases NH op (ρ x) (ρ y)<;>rfl
 case eqv neg k x y=>cases aEq k (ρ x) (ρ y)<;>rfl
 case un op x=>cases RN op (ρ x)<;>rfl
 case conv k x=>cases ρ x<;>rfl
 case build z ps=>cases RU ρ ps z<;>rfl
 case nilCheck x=>cases ρ x<;>first | rfl | (rename_i a;cases a<;>rfl) | (rename_i f a b;cases f<;>rfl)
 case fieldAddr o x=>cases ρ x<;>first | rfl | (rename_i a;cases a<;>rfl)
 case field1 o x=>cases ρ x<;>first | rfl | (rename_i cs;simp only;cases cs.toList[o]?<;>rfl)
 case fieldN o n x=>cases ρ x<;>rfl
 case idxAddrA l e x i=>split<;>first | rfl | (split<;>rfl)
 case idxAddrS e x i=>split<;>first | rfl | (split<;>rfl)
 case idxA l e d x i=>
  split
  ·split
   ·split
    ·rfl
    ·simp [Function.comp_def]
   ·rfl
  ·rfl
 case idxStr x i=>
  split
  ·split
   ·simp [Function.comp_def]
   ·rfl
  ·rfl
 case sliceS e x lo hi mx=>cases TH e ρ (ρ x) lo hi mx<;>rfl
 case sliceA n e x lo hi mx=>
  split
  ·split
   ·split<;>rfl
   ·rfl
  ·rfl
 case sliceStr x lo hi=>
  split
  ·split<;>rfl
  ·rfl
 case lenStr x=>cases ρ x<;>rfl
 case lenSlice x=>cases ρ x<;>rfl
 case capSlice x=>
  cases ρ x<;>try rfl
  rename_i a n c;by_cases h:c<2 ^ 62<;>simp only [h,if_true,if_false]<;>rfl
 case die=>rfl
 case minmax mx xs=>
  cases xs with
  | nil=>rfl
  | cons x r=>simp only;cases RH mx (ρ x) (r.map ρ)<;>rfl
 case extract i x=>cases ρ x<;>first | rfl | (rename_i vs;simp only;cases vs.toList[i]?<;>rfl)
 case strId x=>cases ρ x<;>rfl
 case call mp f args=>split at hk<;>cases hk
theorem N1p (hk:kind o=.p) {lim:Nat} (h:NL lim dest o ρ H=some (v,H')) :
  H'=H/\∀a,NL lim dest o ρ a=some (v,a):=by
 rw [Ndr hk] at h;cases hg:(NL lim dest o ρ []).map (·.1) with
 | none=>rw [hg] at h;cases h
 | some c=>
   rw [hg] at h;cases h;exact ⟨rfl,fun a=>by rw [Ndr hk,hg];rfl⟩
theorem YZ (hk:kind o=.r) (hc:∀mp f args,o≠.call mp f args) {lim:Nat} (h:NL lim dest o ρ H=some (v,H')):H'=H:=by
 have fin:∀{x:Option Value},(x.map fun c=>(c,H))=some (v,H')->H'=H:=by
  intro x h;cases x with
  | none=>cases h
  | some c=>cases h;rfl
 cases o<;>simp [kind] at hk<;>simp only [NL] at h
 case load1=>split at h;exact fin h;cases h
 case loadN=>
  split at h
  ·simp only [Nd,Prod.mk.injEq] at h;obtain ⟨_,_,_,h⟩:=h;exact h.symm
  ·cases h
 case loadR=>
  split at h
  ·split at h
   ·simp only [Nd,Prod.mk.injEq] at h;obtain ⟨_,_,_,h⟩:=h;exact h.symm
   ·cases h
  ·cases h
 case loadO=>
  split at h
  ·split at h
   ·simp only [Nd,Prod.mk.injEq] at h;obtain ⟨_,_,_,h⟩:=h;exact h.symm
   ·cases h
  ·cases h
 case lenMap=>simp only [Nd,Prod.mk.injEq] at h;obtain ⟨_,_,_,h⟩:=h;exact h.symm
 case lookup=>
  split at h
  ·split at h
   ·split at h<;>cases h<;>rfl
   ·cases h
  ·cases h
 case rowMark=>
  split at h
  ·split at h
   ·split at h
    ·cases h;rfl
    ·cases h
   ·cases h
  ·cases h
 case b2s=>
  split at h
  ·split at h<;>cases h;rfl
  ·split at h
   ·split at h<;>cases h;rfl
   ·cases h
  ·cases h
 case call=>cases h
theorem N1r (hk:kind o=.a) {lim:Nat} (h:NL lim (some d) o ρ H=some (v,H')) :
  ∃b,H'=H.set d b/\∀c,NL lim (some d) o ρ c=some (v,c.set d b):=by
 cases o<;>simp [kind] at hk<;>simp only [NL,Vm] at h⊢
 case alloc=>cases h;exact ⟨_,rfl,fun _=>rfl⟩
 case box x=>
  split at h
  case isFalse=>cases h
  rename_i e;cases h;exact ⟨_,rfl,fun _=>by rw [Nl e]⟩
 case buildSlice=>
  split at h
  case h_2=>cases h
  cases h;exact ⟨_,rfl,fun _=>rfl⟩
 case makeSlice=>
  split at h
  case h_2=>cases h
  split at h
  case isFalse=>cases h
  rename_i hc;cases h;exact ⟨_,rfl,fun _=>by rw [Nl hc]⟩
 case growNil=>
  split at h
  case h_2=>cases h
  split at h
  case isFalse=>cases h
  rename_i hc;cases h;exact ⟨_,rfl,fun _=>by rw [Nl hc]⟩
 case makeMap=>
  split at h
  case h_2=>cases h
  cases h;exact ⟨_,rfl,fun _=>rfl⟩
 case call mp f args=>split at hk<;>cases hk
theorem Xy {i:Nat} (h:i≠j):NE (X.set j b) i=NE X i:=by
 unfold NE;rw [Nb,Nb,Qr (Ne.symm h)]
theorem VB (h:kind o=.s):YD o=true:=by
 cases o<;>(try (simp [kind] at h;done))<;>(try rfl)
 simp only [kind] at h;split at h<;>cases h
theorem N1v (h:YD o=true):kind o=.s/\makes o=false:=by
 cases o<;>simp [YD] at h;exact ⟨rfl,rfl⟩
theorem N1o (hk:kind o=.s) {lim:Nat} (h:NL lim (some d) o ρ H=some (v,H')) :
  ∃b,H'=H.set d b/\∀e,NE e d=NE H d->NL lim (some d) o ρ e=some (v,e.set d b):=by
 have hs:=VB hk;cases o<;>simp [YD] at hs;rename_i n a x;cases ha:ρ a with
 | pointer q=>
   cases q with
   | none=>simp [NL,ha] at h
   | some p=>
     simp only [NL,ha] at h⊢;split at h
     case isFalse=>cases h
     rename_i hc;simp only [Nd,Prod.mk.injEq] at h;obtain ⟨K,h1,rfl,rfl⟩:=h;unfold storeAt at h1;rw [hc.1] at h1;split at h1
     case h_2=>cases h1
     rename_i c f;split at h1
     case isFalse=>cases h1
     rename_i hl;cases h1;refine ⟨_,rfl,fun e h2=>?_⟩;rw [Nl hc];unfold storeAt;rw [hc.1,h2,f];simp only;rw [Nl hl];rfl
 | _=>simp [NL,ha] at h
theorem WS {lim:Nat} {r} (h:NL lim dest o ρ H=some r):NL lim dest (ZQ o) ρ H=some r:=by
 cases o<;>try exact h
 case loadO n x b=>
  simp only [NL] at h;split at h
  case h_2=>cases h
  rename_i p q c e;split at h
  case isFalse=>cases h
  cases n with
  | none=>simp only [ZQ,NL,c];exact h
  | some k=>
    simp only [ZQ,NL,c];simp only [loadX,Option.map_map] at h;exact h
 case storeO n a x b=>
  simp only [NL] at h;split at h
  case h_2=>cases h
  rename_i p q c e;split at h
  case isFalse=>cases h
  rename_i hc;simp only [ZQ,NL,c];rw [Nl hc.2];exact h
 case loadR n x=>
  cases c:ρ x with
  | pointer q=>
    cases q with
    | none=>simp [NL,c] at h
    | some p=>
      simp only [NL,c] at h;split at h
      case isFalse=>cases h
      cases n with
      | none=>simp only [ZQ,NL,c];exact h
      | some k=>
        simp only [ZQ,NL,c];simp only [loadX,Option.map_map] at h;exact h
  | _=>simp [NL,c] at h
 case storeD n a x=>
  cases dest with
  | none=>simp [NL] at h
  | some d=>
    cases c:ρ a with
    | pointer q=>
      cases q with
      | none=>simp [NL,c] at h
      | some p=>
        simp only [NL,c] at h;split at h
        case isFalse=>cases h
        rename_i hc;simp only [ZQ,NL,c];rw [Nl hc.2];exact h
    | _=>simp [NL,c] at h
 case append0=>
  simp only [NL] at h;split at h
  ·rename_i hs;simp only [ZQ,NL,hs];exact h
  ·cases h
 case appendL=>
  simp only [NL] at h;split at h
  ·rename_i hs;simp only [ZQ,NL,hs];exact h
  ·rename_i hs;split at h
   ·simp only [ZQ,NL,hs];exact h
   ·cases h
  ·cases h
theorem Nds (h:isL o=true):kind o=.w/\makes o=true/\isL (ZQ o)=false/\kind (ZQ o)=.w/\makes (ZQ o)=true:=by
 cases o<;>simp [isL] at h;simp [ZQ,kind,makes,isL]
theorem Nv4 (hL:isL o=true) {lim:Nat} (h:NL lim (some d) o ρ H=some (v,H')) (j:Nat) (c:j≠d):H'[j]? = H[j]?\/H'[j]? = some .dead:=by
 cases o<;>simp [isL] at hL;have set:∀{H:NA} {i:Nat} {b:Blk},j≠i->(H.set i b)[j]? = H[j]?:=fun {H i b} h=>by rw [Ob,Ng (Ne.symm h)]
 have dead:∀{H:NA} {i:Nat},(H.set i .dead)[j]? = H[j]?\/(H.set i .dead)[j]? = some .dead:=fun {H i}=>by
  by_cases e:i=j
  ·subst e;rw [Ob,Nl rfl];by_cases hi:i<H.length
   ·rw [Nl hi];exact .inr rfl
   ·rw [Ng hi,N0 (by omega)];exact .inl rfl
  ·exact .inl (set (Ne.symm e))
 simp only [NL] at h;split at h
 ·unfold OP at h;split at h
  case h_2=>cases h
  rename_i e1 e2 e3;cases e1;split at h
  ·cases h
  split at h
  ·cases h;exact .inl rfl
  simp only at h;split at h
  ·cases h;exact .inl (set c)
  ·cases h
 ·split at h
  case isFalse=>cases h
  rename_i hc;unfold OP at h;split at h
  case h_2=>cases h
  rename_i e1 e2 e3;cases e1;split at h
  ·cases h
  split at h
  ·cases h;exact .inl rfl
  repeat' (split at h)
  all_goals first
   | (cases h;done)
   | contradiction
   | (cases h;exact .inl rfl)
   | (cases h;exact .inl (set c))
   | (cases h;rename_i a;simp only [place,Prod.mk.injEq] at a;obtain ⟨_,rfl⟩:=a;rw [set c];exact dead)
   | (cases h;rename_i a;simp only [place,Prod.mk.injEq] at a;obtain ⟨_,rfl⟩:=a;exact .inl (set c))
   | (exfalso;omega)
 ·cases h
theorem N1q (hk:kind o=.n) {lim:Nat} (h:NL lim (some d) o ρ H=some (v,H')):H'=H\/∃b,H'=H.set d b:=by
 cases o<;>simp [kind] at hk<;>simp only [NL] at h
 case append0=>
  split at h
  case h_2=>cases h
  unfold OP at h;split at h
  case h_2=>cases h
  rename_i e1 e2 e3;cases e1;split at h
  ·cases h
  split at h
  ·cases h;exact .inl rfl
  split at h
  ·split at h
   ·simp only [Vm] at h;cases h;exact .inr ⟨_,rfl⟩
   ·cases h
  ·split at h
   ·cases h
   split at h
   ·rename_i q;exact absurd q (by unfold loose;omega)
   ·split at h
    ·split at h
     ·omega
     ·simp only [Vm] at h;cases h;exact .inr ⟨_,rfl⟩
    ·cases h
 case call mp f args=>split at hk<;>cases hk
theorem Nxe {lim:Nat} {ρ':Operand->Value} (h:∀x∈o.operands,ρ x=ρ' x):NL lim dest o ρ H=NL lim dest o ρ' H:=by
 have k:∀(ps:List (Nat×Nat×Operand)) (c:List Value),(∀x∈ps.map (·.2.2),ρ x=ρ' x)->RU ρ ps c=RU ρ' ps c:=by
  intro ps
  induction ps with
  | nil=>intro c _;rfl
  | cons p ps ih=>
    intro c hp;obtain ⟨o,s,x⟩:=p;simp only [RU,hp x (by simp)];split
    ·exact ih _ fun y d=>hp y (by simp at d⊢;exact .inr d)
    ·rfl
 have j:∀(len cap:Nat) (lo hi mx:Option Operand),(∀x∈lo.toList++hi.toList++mx.toList,ρ x=ρ' x)->bounds ρ len cap lo hi mx=bounds ρ' len cap lo hi mx:=by
  intro len cap lo hi mx g;cases lo<;>cases hi<;>cases mx<;>simp at g<;>unfold bounds<;>(try simp only [g])
 cases o<;>simp only [AOp.operands] at h<;>simp only [NL]
 case build z ps=>rw [k ps z h]
 case buildSlice n z ps=>rw [k ps z h]
 case sliceS e x lo hi mx=>
  have i:=h x (by simp);have g:=fun len cap=>j len cap lo hi mx fun y d=>h y (Nr _ d)
  simp only [i,TH,g]
 case sliceA n e x lo hi mx=>
  have i:=h x (by simp);have g:=fun len cap=>j len cap lo hi mx fun y d=>h y (Nr _ d)
  simp only [i,g]
 case sliceStr x lo hi=>
  have i:=h x (by simp);have g:=fun len cap=>j len cap lo hi none fun y d=>h y (Nr _ (by simpa using d))
  simp only [i,g]
 case minmax mx xs=>
  cases xs with
  | nil=>rfl
  | cons x r=>simp only [h x (by simp),P9 fun y d=>h y (Nr _ d)]
 case makeMap hint=>
  cases hint with
  | none=>rfl
  | some x=>simp only [h x (by simp)]
 case makeFunc f a b=>
  rw [P9 fun y d=>h y (by simp [d]),P9 (l:=b) fun y d=>h y (by simp [d])]
 all_goals (first | rfl | (simp only [Ns,O8,or_false,forall_eq_or_imp,forall_eq] at h;simp only [h]))
structure CallOk0 (C:Ul):Prop where
 pure:∀lim g as H v H',C true lim g as H=some (v,H')->H'=H
 len:∀mp lim g as H v H',C mp lim g as H=some (v,H')->lim<=H.length->H.length<=H'.length
 keep:∀mp lim g as H v H',C mp lim g as H=some (v,H')->lim<=H.length->∀j,j<lim->H'[j]? = H[j]?
theorem U4 {lim:Nat} (h:storeAt lim H a vs=some H'):H'.length=H.length:=by
 unfold storeAt at h;split at h
 ·split at h
  ·cases h;simp
  ·cases h
 ·cases h
theorem Ncq (hL:isL o=false) (hk:kind o=.w) {lim:Nat} (h:NL lim (some d) o ρ H=some (v,H')):H'.length=H.length:=by
 cases o<;>simp [kind] at hk<;>simp only [NL] at h
 case store=>
  split at h
  ·split at h
   ·simp only [Nd,Prod.mk.injEq] at h;obtain ⟨_,h1,_,rfl⟩:=h;exact U4 h1
   ·cases h
  ·cases h
 case storeO=>
  split at h
  ·split at h
   ·simp only [Nd,Prod.mk.injEq] at h;obtain ⟨_,h1,_,rfl⟩:=h;exact U4 h1
   ·cases h
  ·cases h
 case append=>
  unfold OP at h;split at h
  case h_2=>cases h
  split at h
  ·cases h
  split at h
  ·cases h;rfl
  split at h
  ·split at h
   ·simp only [Vm] at h;cases h;simp
   ·cases h
  ·split at h
   ·cases h
   split at h
   ·split at h
    ·split at h
     ·simp only [Vm] at h;cases h;simp
     ·cases h
    ·cases h
   ·split at h
    ·split at h
     ·split at h
      ·rename_i h1;cases h;exact U4 h1
      ·cases h
     ·simp only [Vm] at h;cases h;simp
    ·cases h
 case copy=>
  split at h
  ·split at h
   ·split at h
    ·split at h
     ·cases h;rfl
     ·simp only [Nd,Prod.mk.injEq] at h;obtain ⟨_,h1,_,rfl⟩:=h;exact U4 h1
    ·split at h
     ·cases h;rfl
     ·cases h
   ·cases h
  ·cases h
 case mapUpdate=>
  split at h
  ·split at h
   ·split at h
    ·split at h<;>cases h<;>simp
    ·cases h
   ·cases h
  ·cases h
 case clear=>
  split at h
  ·split at h
   ·cases h;rfl
   ·simp only [Nd,Prod.mk.injEq] at h;obtain ⟨_,h1,_,rfl⟩:=h;exact U4 h1
  ·cases h
 case delete=>cases h
 case call=>split at hk<;>cases hk
 case appendL=>simp [isL] at hL
theorem Ya (hk:kind o=.w) {lim:Nat} (h:NL lim (some d) o ρ H=some (v,H')):H'.length=H.length:=by
 cases hL:isL o with
 | false=>exact Ncq hL hk h
 | true=>obtain ⟨_,_,h1,h2,_⟩:=Nds hL;exact Ncq h1 h2 (WS h)
structure Planned (x:AIns):Prop where
 bare:kind x.op=.p\/kind x.op=.a\/kind x.op=.s->x.mask=[]
 dest:makes x.op=true->∃r,x.dest=some r
 home:YD x.op=true->∃r,x.dest=some r
theorem ZA (h:kind o=.a):makes o=true:=by cases o<;>simp_all [makes,kind]
theorem YY (hk:kind o=.w) (hm:makes o=false) {lim:Nat} (h:NL lim dest o ρ H=some (v,H')):H'.length=H.length:=by
 have key:NL lim dest o ρ H=NL lim (some 0) o ρ H:=by
  cases o<;>simp [kind] at hk<;>simp [makes] at hm<;>rfl
 rw [key] at h;exact Ya hk h
section
variable {C:Ul} {N lim base:Nat}
variable {r d:Nat} {x y:AIns} {v u:Value} {H H' A B H1:NA} {b dest:Option Nat} {fr fr' fr1:Nat->Value} {ρ:Operand->Value} {o:AOp}
def PR (C:Ul) (lim base:Nat) (i:AIns) (ρ:Operand->Value) (H:NA):Option (Value×NA):=
 match R6 C lim (i.dest.map (base+·)) i.op ρ (OI base i.mask H) with
 | some (v,H')=>some (v,OE base i.mask H H')
 | none=>none
theorem SG {i:AIns}:Tc C N lim (some base) i fr H =
  match RO N fr i.guard with
  | none=>none
  | some false=>some (undef,H)
  | some true=>PR C lim base i (ev fr) H:=rfl
theorem PD (h:∀mp f args,o≠.call mp f args) (dest:Option Nat) (ρ:Operand->Value) (H:NA):R6 C lim dest o ρ H=NL lim dest o ρ H:=by
 cases o<;>first | rfl | (exact absurd rfl (h _ _ _))
theorem Nvz (h:∃mp f args,o=.call mp f args):kind o=.r\/kind o=.c:=by
 obtain ⟨mp,f,args,rfl⟩:=h;cases mp<;>simp [kind,CM.isPure]
theorem YU (h:kind o=.p\/kind o=.a\/kind o=.w):∀mp f args,o≠.call mp f args:=fun mp f args e=>by
 rcases Nvz ⟨mp,f,args,e⟩ with h' | h'<;>rw [h'] at h<;>simp at h
theorem N28 {i:AIns} (hp:Planned i) (hk:kind i.op=.p) (ρ:Operand->Value) (H:NA):PR C lim base i ρ H=((NL lim (i.dest.map (base+·)) i.op ρ []).map (·.1)).map (·,H):=by
 unfold PR;rw [hp.bare (.inl hk),PD (YU (.inl hk))];simp only [OI,OE,List.foldl_nil];rw [Ndr hk];cases (Option.map (fun x=>x.1) (NL lim (Option.map (fun x=>base+x) i.dest) i.op ρ []))<;>rfl
theorem Yt (b:CallOk0 C) {i:AIns} (hk:kind i.op=.r) (h:PR C lim base i ρ H=some (v,H')):H'=H:=by
 unfold PR at h;split at h
 case h_2=>cases h
 rename_i c H1 h1;cases h;have:H1=OI base i.mask H:=by
  by_cases hc:∃mp f args,i.op=.call mp f args
  ·obtain ⟨mp,f,args,hc⟩:=hc;rw [hc] at h1 hk;have a:mp=.pure:=by cases mp<;>simp [kind,CM.isPure] at hk⊢
   subst a;simp only [R6] at h1;split at h1
   ·exact b.pure _ _ _ _ _ _ (Td h1).1
   ·cases h1
  ·rw [PD (fun mp f args e=>hc ⟨mp,f,args,e⟩)] at h1;exact YZ hk (fun mp f args e=>hc ⟨mp,f,args,e⟩) h1
 rw [this,Tg]
theorem Nf9 {i:AIns} (hp:Planned i) (hk:kind i.op=.a) (hr:i.dest=some r) (h:PR C lim base i ρ H=some (v,H')) :
  ∃b,H'=H.set (base+r) b/\∀c,PR C lim base i ρ c=some (v,c.set (base+r) b):=by
 unfold PR at h⊢;rw [hp.bare (.inr (.inl hk)),PD (YU (.inr (.inl hk))),hr] at h;simp only [OI,OE,List.foldl_nil,Ny] at h;split at h
 case h_2=>cases h
 rename_i d H1 h1;cases h;obtain ⟨b,e1,e2⟩:=N1r hk h1;refine ⟨b,e1,fun c=>?_⟩;rw [hp.bare (.inr (.inl hk)),PD (YU (.inr (.inl hk))),hr];simp only [OI,OE,List.foldl_nil,Ny,e2]
theorem Nr1 {i:AIns} (hp:Planned i) (hk:kind i.op=.s) (hr:i.dest=some r) (h:PR C lim base i ρ H=some (v,H')) :
  ∃b,H'=H.set (base+r) b/\∀a,NE a (base+r)=NE H (base+r)->PR C lim base i ρ a=some (v,a.set (base+r) b):=by
 have c:∀mp f args,i.op≠.call mp f args:=fun mp f args e=>by have:=VB hk;rw [e] at this;simp [YD] at this
 unfold PR at h⊢;rw [hp.bare (.inr (.inr hk)),PD c,hr] at h;simp only [OI,OE,List.foldl_nil,Ny] at h;split at h
 case h_2=>cases h
 rename_i d H1 h1;cases h;obtain ⟨b,e1,e2⟩:=N1o hk h1;refine ⟨b,e1,fun a h2=>?_⟩;rw [hp.bare (.inr (.inr hk)),PD c,hr];simp only [OI,OE,List.foldl_nil,Ny,e2 a h2]
theorem Nq3 (hk:kind o=.n) {lim:Nat} (h:NL lim (some d) o ρ H=some (v,H')):H'.length=H.length:=by
 rcases N1q hk h with rfl | ⟨b,rfl⟩
 ·rfl
 ·simp
theorem Ns4 (h:kind o=.n):makes o=true:=by
 cases o<;>(try (simp_all [makes,kind];done))
 rename_i mp f args;cases mp<;>simp [kind,CM.isPure] at h
theorem Ndd (base:Nat) (l:List Nat) (H:NA) (d:Nat) (b:Blk):OE base l H ((OI base l H).set d b)=H\/OE base l H ((OI base l H).set d b)=H.set d b:=by
 by_cases hd:∃i∈l,base+i=d
 ·left;apply List.ext_getElem?;intro j;by_cases c:j<H.length
  ·by_cases hl:∃i∈l,base+i=j
   ·rw [Sc base H l _ hl (by simp [PG];exact c),ZH c]
   ·have a:∀i∈l,base+i≠j:=fun i hi e=>hl ⟨i,hi,e⟩
    rw [Ry base H l _ a,Ob,Ng (fun e=>hl (by rw [<-e];exact hd)),QT base l _ a]
  ·rw [N0 (by rw [PQ];simp [PG];omega),N0 (by omega)]
 ·right;apply List.ext_getElem?;intro j;by_cases c:j<H.length
  ·by_cases hl:∃i∈l,base+i=j
   ·rw [Sc base H l _ hl (by simp [PG];exact c),Ob,Ng (fun e=>hd (by rw [e];exact hl)),ZH c]
   ·have a:∀i∈l,base+i≠j:=fun i hi e=>hl ⟨i,hi,e⟩
    rw [Ry base H l _ a,Ob,Ob,PG,QT base l _ a]
  ·rw [N0 (by rw [PQ];simp [PG];omega),N0 (by simp;omega)]
theorem N29 {i:AIns} (hp:Planned i) (hk:kind i.op=.n) (h:PR C lim base i ρ H=some (v,H')) :
  ∃r,i.dest=some r/\(H'=H\/∃b,H'=H.set (base+r) b):=by
 obtain ⟨r,hr⟩:=hp.dest (Ns4 hk);refine ⟨r,hr, ?_⟩;unfold PR at h;have a:∀mp f args,i.op≠.call mp f args:=fun mp f args e=>by rw [e] at hk;cases mp<;>simp [kind,CM.isPure] at hk
 rw [PD a,hr] at h;simp only [Ny] at h;split at h
 case h_2=>cases h
 rename_i c H1 h1;cases h;rcases N1q hk h1 with rfl | ⟨b,rfl⟩
 ·rw [Tg];exact .inl rfl
 ·rcases Ndd base i.mask H (base+r) b with e | e
  ·exact .inl e
  ·exact .inr ⟨b,e⟩
theorem Oag (h:kind o=.c):∃mp f args,o=.call mp f args:=by
 cases o<;>simp [kind] at h;exact ⟨_,_,_,rfl⟩
theorem Nll (m:CallOk0 C) {i:AIns} (hp:Planned i) {X:NA} (hl:lim<=A.length) (hs:R6 C lim (i.dest.map (base+·)) i.op ρ A=some (v,X)):A.length<=X.length/\(kind i.op≠.c->X.length=A.length):=by
 by_cases hc:∃mp f args,i.op=.call mp f args
 ·obtain ⟨mp,f,args,hc⟩:=hc;rw [hc] at hs;simp only [R6] at hs;split at hs
  case h_2=>cases hs
  have j:=(Td hs).1;have k:mp.lim lim A<=A.length:=by cases mp<;>simp [CM.lim,hl]
  refine ⟨m.len _ _ _ _ _ _ _ j k,fun hk=>?_⟩;rw [hc] at hk;have l:mp=.pure:=by cases mp<;>simp [kind,CM.isPure] at hk⊢
  subst l;rw [m.pure _ _ _ _ _ _ j]
 ·have g:∀mp f args,i.op≠.call mp f args:=fun mp f args e=>hc ⟨mp,f,args,e⟩
  rw [PD g] at hs;have:X.length=A.length:=by
   cases hk:kind i.op with
   | p=>rw [Ndr hk] at hs;simp only [Nd,Prod.mk.injEq] at hs;obtain ⟨_,_,_,h⟩:=hs;rw [h]
   | r=>rw [YZ hk g hs]
   | a=>
     obtain ⟨r',d⟩:=hp.dest (ZA hk);rw [d] at hs;obtain ⟨b,e1,_⟩:=N1r hk hs;rw [e1];simp
   | w=>
     cases hm:makes i.op with
     | true=>
       obtain ⟨r',d⟩:=hp.dest hm;rw [d] at hs;exact Ya hk hs
     | false=>exact YY hk hm hs
   | n=>
     obtain ⟨r',d⟩:=hp.dest (Ns4 hk);rw [d] at hs;exact Nq3 hk hs
   | c=>exact absurd (Oag hk) (fun ⟨_,_,_,e⟩=>g _ _ _ e)
   | s=>
     obtain ⟨r',d⟩:=hp.home (VB hk);rw [d] at hs;obtain ⟨b,e1,_⟩:=N1o hk hs;rw [e1];simp
  exact ⟨by omega,fun _=>this⟩
theorem XH (a:CallOk0 C) {i:AIns} (hp:Planned i) (hl:lim<=H.length) (h:PR C lim base i ρ H=some (v,H')):H.length<=H'.length:=by
 unfold PR at h;split at h
 case h_2=>cases h
 rename_i b X h1;cases h;have:=(Nll a hp (by rw [PG];exact hl) h1).1;rw [PG] at this;rw [PQ];exact this
theorem UA (d:CallOk0 C) {i:AIns} (hp:Planned i) (hr:r∈i.mask) (ρ:Operand->Value) (H:NA) (b:Blk) (hl:lim<=H.length) (a:base+r<H.length) :
  PR C lim base i ρ (H.set (base+r) b)=(PR C lim base i ρ H).map fun p=>(p.1,p.2.set (base+r) b):=by
 unfold PR;rw [N0c base i.mask H hr b];cases hs:R6 C lim (i.dest.map (base+·)) i.op ρ (OI base i.mask H) with
 | none=>rfl
 | some p=>
   obtain ⟨v,X⟩:=p;simp only [Ny];have c:=(Nll d hp (by rw [PG];exact hl) hs).1;rw [PG] at c;rw [Nla base i.mask H X hr b a c]
theorem Nf8 (b:CallOk0 C) {i:AIns} (hp:Planned i) (hr:r∈i.mask) (hl:lim<=H.length) (c:base+r<H.length) (h:PR C lim base i ρ H=some (v,H')):NE H' (base+r)=NE H (base+r):=by
 have a:=XH b hp hl h;unfold PR at h;split at h
 case h_2=>cases h
 rename_i d X h1;cases h;rw [PQ] at a;have:=Sc base H i.mask X ⟨r,hr,rfl⟩ (by omega);unfold NE;rw [Nb,this];rfl
structure Sep (x y:AIns):Prop where
 apart:Nb6 x y=true
 calm:AM.calm x.op y.op=true
 maskY:(kind y.op=.r\/kind y.op=.w\/kind y.op=.n\/kind y.op=.c)->∀r,x.dest=some r->r∈y.mask
 maskX:(kind x.op=.r\/kind x.op=.w\/kind x.op=.n\/kind x.op=.c)->∀r,y.dest=some r->r∈x.mask
 dests:∀r,x.dest=some r->y.dest≠some r
theorem N0h {i:AIns} {t:Nat} (h:Operand.tmp t∈i.op.operands):t∈i.looks:=by
 unfold AIns.looks;exact O9 _ (List.mem_filterMap.2 ⟨.tmp t,h,rfl⟩)
theorem Nmz {i:AIns} {t:Nat} {b:Bool} (h:i.guard=some (t,b)):t∈i.looks:=by
 unfold AIns.looks;rw [h];exact Qh _ (by simp)
theorem MM {ρ':Operand->Value} (h:∀x∈o.operands,ρ x=ρ' x):R6 C lim dest o ρ H=R6 C lim dest o ρ' H:=by
 by_cases hc:∃mp f args,o=.call mp f args
 ·obtain ⟨mp,f,args,rfl⟩:=hc;simp only [AOp.operands] at h;simp only [R6,h f (by simp),P9 fun y b=>h y (Nr _ b)]
 ·have a:∀mp f args,o≠.call mp f args:=fun mp f args e=>hc ⟨mp,f,args,e⟩
  rw [PD a,PD a];exact Nxe h
theorem Nq9 {i:AIns} (h:d∉i.looks):Tc C N lim b i (upd fr d v) H=Tc C N lim b i fr H:=by
 have a:RO N (upd fr d v) i.guard=RO N fr i.guard:=by
  cases hg:i.guard with
  | none=>rfl
  | some g=>
    obtain ⟨t,b⟩:=g;have:t≠d:=fun e=>h (e▸Nmz hg)
    simp [RO,upd,this]
 have he:∀x∈i.op.operands,ev (upd fr d v) x=ev fr x:=fun x c=>by
  cases x with
  | tmp t=>
    have:t≠d:=fun e=>h (e▸N0h c)
    simp [ev,upd,this]
  | _=>rfl
 unfold Tc;rw [a];cases b with
 | none=>simp only [MM (C:=C) (lim:=lim) he]
 | some b=>simp only [MM (C:=C) (lim:=lim) he]
theorem Nfd {i:AIns} {dst:Option Nat} (hp:YP N fr dst v=some fr') (h:∀d,dst=some d->d∉i.looks):Tc C N lim b i fr' H=Tc C N lim b i fr H:=by
 cases dst with
 | none=>cases hp;rfl
 | some d=>
   simp only [YP] at hp;split at hp
   ·cases hp;exact Nq9 (h d rfl)
   ·cases hp
theorem put_comm {fr2:Nat->Value} {x y:Option Nat} (h1:YP N fr x v=some fr1) (h2:YP N fr1 y u=some fr2) (c:∀d,x=some d->y≠some d) :
  ∃a,YP N fr y u=some a/\YP N a x v=some fr2:=by
 cases x with
 | none=>cases h1;exact ⟨fr2,h2,rfl⟩
 | some d=>
   cases y with
   | none=>cases h2;exact ⟨fr,rfl,h1⟩
   | some e=>
     simp only [YP] at h1 h2;split at h1
     case isFalse=>cases h1
     rename_i hd;split at h2
     case isFalse=>cases h2
     rename_i he;cases h1;cases h2;refine ⟨upd fr e u,by simp [YP,he], ?_⟩;have b:d≠e:=fun h=>c d rfl (by rw [h])
     simp only [YP,hd,if_true,Option.some.injEq];funext t;simp only [upd];by_cases h1:t=d
     ·subst h1;simp [b]
     ·simp [h1]
theorem WK {i:Nat} {b:Blk} (h:NE H i=b) (a:b≠.dead):H[i]? = some b:=by
 unfold NE at h;rw [Nb] at h;cases hi:H[i]? with
 | none=>rw [hi] at h;simp at h;exact absurd h.symm a
 | some x=>rw [hi] at h;simp at h;rw [h]
theorem Nuo (hr:isRead o=true) {lim:Nat} {c:NA} (hk:∀(j:Nat) b,H[j]? = some b->c[j]? = some b) (h:NL lim dest o ρ H=some (v,H)):NL lim dest o ρ c=some (v,c):=by
 have f:∀{j:Nat} {b:Blk},b≠.dead->NE H j=b->NE c j=b:=fun {j b} d h=>by
  have:=hk j _ (WK h d);unfold NE;rw [Nb,this];rfl
 have h1:∀{p:Addr} {z:Value},AM.loadCell H p=some z->AM.loadCell c p=some z:=fun {p z} a=>by
  unfold AM.loadCell at a⊢;split at a
  ·rename_i d;rw [f (by intro e;cases e) d];exact a
  ·cases a
 have hN:∀{p:Addr} {n:Nat} {z:List Value},AM.loadCells H p n=some z->AM.loadCells c p n=some z:=fun {p n z} a=>by
  unfold AM.loadCells at a⊢;split at a
  ·rename_i d;rw [f (by intro e;cases e) d];exact a
  ·cases a
 have hM:∀{m:Value} {es:List (Value×Value)},mapEntries H m=some es->mapEntries c m=some es:=fun {m es} a=>by
  unfold mapEntries at a⊢;split at a
  ·exact a
  ·split at a
   ·rename_i d;rw [f (by intro e;cases e) d];exact a
   ·cases a
  ·cases a
 cases o<;>simp [isRead] at hr<;>simp only [NL] at h⊢
 case load1=>
  split at h
  ·simp only [Nd,Prod.mk.injEq] at h;obtain ⟨z,a,rfl,_⟩:=h;rw [h1 a];rfl
  ·cases h
 case loadN=>
  split at h
  ·simp only [Nd,Prod.mk.injEq] at h;obtain ⟨z,a,rfl,_⟩:=h;rw [hN a];rfl
  ·cases h
 case lenMap=>
  simp only [Nd,Prod.mk.injEq] at h;obtain ⟨z,a,rfl,_⟩:=h;rw [hM a];rfl
 case lookup=>
  split at h
  ·rename_i a;rw [hM a];simp only;split at h
   ·rename_i hc;rw [Nl hc];split at h<;>cases h<;>rfl
   ·cases h
  ·cases h
 case b2s=>
  split at h
  ·split at h
   ·rename_i hc;cases h;rw [Nl hc]
   ·cases h
  ·split at h
   ·rename_i a;rw [hN a];simp only;split at h
    ·cases h;rfl
    ·cases h
   ·cases h
  ·cases h
theorem Nqr (hr:isLoad o=true) {lim:Nat} (d:∀{j:Nat} {ro:Bool} {c:List Value},NE A j=.cells ro c->NE B j=.cells ro c) (h:NL lim dest o ρ A=some (v,A)):NL lim dest o ρ B=some (v,B):=by
 cases o<;>simp [isLoad] at hr<;>simp only [NL] at h⊢
 case load1=>
  split at h
  ·rename_i p hp;simp only [Nd,Prod.mk.injEq] at h;obtain ⟨z,a,rfl,_⟩:=h;have:AM.loadCell B p=some z:=by
    unfold AM.loadCell at a⊢;split at a
    ·rename_i b;rw [d b];exact a
    ·cases a
   rw [this];rfl
  ·cases h
 case loadN e f=>
  split at h
  ·rename_i p hp;simp only [Nd,Prod.mk.injEq] at h;obtain ⟨z,a,rfl,_⟩:=h;have:AM.loadCells B p e=some z:=by
    unfold AM.loadCells at a⊢;split at a
    ·rename_i b;rw [d b];exact a
    ·cases a
   rw [this];rfl
  ·cases h
theorem Nqu (hr:ZF o=true) {lim:Nat} (c:∀{j:Nat},TT (NE A j)=true->NE B j=NE A j) (h:NL lim dest o ρ A=some (v,A)):NL lim dest o ρ B=some (v,B):=by
 cases o<;>simp [ZF] at hr;rename_i n d;simp only [NL] at h⊢;split at h
 ·rename_i p hp;split at h
  case isFalse=>cases h
  rename_i a;have e:=c a;simp only [Nd,Prod.mk.injEq] at h;obtain ⟨z,b,rfl,_⟩:=h;have:AM.loadX n B p=some z:=by
   unfold AM.loadX AM.loadCell AM.loadCells at b⊢;rw [e];exact b
  rw [e,Nl a,this];rfl
 ·cases h
theorem N1w {a b:AOp} (h:isO a b=true):∃n x t m p y,a=.loadO n x (.tmp t)/\b=.storeO m p y (.tmp t):=by
 unfold isO at h;split at h
 ·rename_i n x s m p y t;rw [beq_iff_eq] at h;subst h;exact ⟨_,_,_,_,_,_,rfl,rfl⟩
 ·cases h
theorem Nqv {n:Option Nat} {x b:Operand} {lim:Nat} (f:∀q,ρ b=.pointer (some q)->∀{j:Nat} {ro:Bool} {c:List Value},j≠q.block->NE A j=.cells ro c->NE B j=.cells ro c) (h:NL lim dest (.loadO n x b) ρ A=some (v,A)):NL lim dest (.loadO n x b) ρ B=some (v,B):=by
 simp only [NL] at h⊢;split at h
 case h_2=>cases h
 rename_i p q hp g;split at h
 case isFalse=>cases h
 rename_i a;simp only [Nd,Prod.mk.injEq] at h;obtain ⟨z,d,rfl,_⟩:=h;have:AM.loadX n B p=some z:=by
  unfold AM.loadX AM.loadCell AM.loadCells at d⊢;cases hc:NE A p.block with
  | cells ro c=>
    have e:=f q g a hc;rw [hc] at d;rw [e];exact d
  | _=>rw [hc] at d;cases n<;>simp at d
 rw [Nl a,this];rfl
theorem Nlh {m:Nat} {p y b:Operand} {lim:Nat} (h:NL lim dest (.storeO m p y b) ρ A=some (v,B)):∀q,ρ b=.pointer (some q)->∀{j:Nat},j≠q.block->NE B j=NE A j:=by
 intro q e j d;simp only [NL] at h;split at h
 case h_2=>cases h
 rename_i a q' g c;rw [e] at c;cases c;split at h
 case isFalse=>cases h
 rename_i hc;simp only [Nd,Prod.mk.injEq] at h;obtain ⟨f,hs,_,rfl⟩:=h;unfold storeAt at hs;split at hs
 ·split at hs
  ·cases hs;exact Xy (by rw [hc.1];exact d)
  ·cases hs
 ·cases hs
theorem Ntu (W:CallOk0 C) (hx:Planned x) (X:Planned y) (hs:Sep x y) {I:NA} (hl:lim<=H.length) (aa:∀r,x.dest=some r\/y.dest=some r->base+r<H.length) (h1:Tc C N lim (some base) x fr H=some (v,H1)) (h2:Tc C N lim (some base) y fr H1=some (u,I)) :
  ∃R,Tc C N lim (some base) y fr H=some (u,R)/\Tc C N lim (some base) x fr R=some (v,I):=by
 rw [SG] at h1 h2;cases gx:RO N fr x.guard with
 | none=>rw [gx] at h1;cases h1
 | some wx=>
 cases gy:RO N fr y.guard with
 | none=>rw [gy] at h2;cases h2
 | some wy=>
 rw [gx] at h1;rw [gy] at h2;cases wx with
 | false=>cases h1;exact ⟨I,by rw [SG,gy];exact h2,by rw [SG,gx]⟩
 | true=>
 cases wy with
 | false=>cases h2;exact ⟨H,by rw [SG,gy],by rw [SG,gx];exact h1⟩
 | true=>
 simp only at h1 h2;suffices hh:∃R,PR C lim base y (ev fr) H=some (u,R)/\PR C lim base x (ev fr) R=some (v,I) by
  obtain ⟨R,e1,e2⟩:=hh;exact ⟨R,by rw [SG,gy];exact e1,by rw [SG,gx];exact e2⟩
 have ak:∀{i:AIns} (hp:Planned i) (hk:kind i.op=.p) {A B:NA} {z:Value},PR C lim base i (ev fr) A=some (z,B)->B=A/\∀D,PR C lim base i (ev fr) D=some (z,D):=by
  intro i hp hk A B z h;rw [N28 hp hk] at h;cases hg:(NL lim (i.dest.map (base+·)) i.op (ev fr) []).map (·.1) with
  | none=>rw [hg] at h;cases h
  | some c=>rw [hg] at h;cases h;exact ⟨rfl,fun D=>by rw [N28 hp hk,hg];rfl⟩
 by_cases a5:kind x.op=.p
 ·obtain ⟨rfl,o⟩:=ak hx a5 h1;exact ⟨I,h2,o I⟩
 by_cases a7:kind y.op=.p
 ·obtain ⟨rfl,o⟩:=ak X a7 h2;exact ⟨H,o H,h1⟩
 have E:((((conflict (kind x.op) (kind y.op)=false\/(isL x.op=true/\isLoad y.op=true))\/(isRead x.op=true/\N6b y.op=true))\/(isLoad x.op=true/\isMaps y.op=true))\/(ZF x.op=true/\isRecs y.op=true))\/isO x.op y.op=true:=by
  have:=hs.calm;simpa [AM.calm] using this
 rcases E with E | hO
 case inr=>
  obtain ⟨n,ox,t,m,op,oy,ex,ey⟩:=N1w hO;have Z:kind x.op=.r:=by rw [ex];rfl
  have ky:kind y.op=.w:=by rw [ey];rfl
  have V:∀mp f args,x.op≠.call mp f args:=fun mp f args e=>by rw [ex] at e;cases e
  have a0:∀mp f args,y.op≠.call mp f args:=fun mp f args e=>by rw [ey] at e;cases e
  have e1:=Yt W Z h1;subst e1;refine ⟨I,h2, ?_⟩;have O:∀q,ev fr (.tmp t)=.pointer (some q)->∀{j:Nat} {ro:Bool} {c:List Value},j≠q.block->NE H1 j=.cells ro c->NE I j=.cells ro c:=fun q hq {j ro c} ar l=>by
   have P:j<H1.length:=(List.getElem?_eq_some_iff.1 (WK l (by intro e;cases e))).1;have S:H1.length<=I.length:=XH W X hl h2;unfold PR at h2;rw [PD a0] at h2;split at h2
   case h_2=>cases h2
   rename_i v1 T hm;simp only [Option.some.injEq,Prod.mk.injEq] at h2;obtain ⟨rfl,rfl⟩:=h2;rw [PQ] at S;by_cases F:∃i∈y.mask,base+i=j
   ·have:=Sc base H1 y.mask T F (by omega);unfold NE;rw [Nb,this];exact l
   ·have g:∀i∈y.mask,base+i≠j:=fun i hi e=>F ⟨i,hi,e⟩
    rw [ey] at hm;have hk:=Nlh hm q hq ar;have e2:NE (OI base y.mask H1) j=NE H1 j:=by
     unfold NE;rw [Nb,QT base y.mask _ g,<-Nb]
    rw [e2,l] at hk;unfold NE at hk⊢;rw [Nb,Ry base H1 y.mask T g,<-Nb];exact hk
  have F:∀q,ev fr (.tmp t)=.pointer (some q)->∀{j:Nat} {ro:Bool} {c:List Value},j≠q.block->NE (OI base x.mask H1) j=.cells ro c->NE (OI base x.mask I) j=.cells ro c:=fun q hq {j ro c} ar l=>by
   have P:j<H1.length:=by
    have:=(List.getElem?_eq_some_iff.1 (WK l (by intro e;cases e))).1
    rwa [PG] at this
   by_cases hm:∃i∈x.mask,base+i=j
   ·have:=V4 base x.mask _ hm P;unfold NE at l;rw [Nb,this] at l;cases l
   ·have g:∀i∈x.mask,base+i≠j:=fun i hi e=>hm ⟨i,hi,e⟩
    have e1:NE (OI base x.mask H1) j=NE H1 j:=by
     unfold NE;rw [Nb,QT base x.mask _ g,<-Nb]
    have e2:NE (OI base x.mask I) j=NE I j:=by
     unfold NE;rw [Nb,QT base x.mask _ g,<-Nb]
    rw [e1] at l;rw [e2];exact O q hq ar l
  unfold PR at h1⊢;rw [PD V] at h1⊢;split at h1
  case h_2=>cases h1
  rename_i v1 T hm;simp only [Option.some.injEq,Prod.mk.injEq] at h1;obtain ⟨rfl,_⟩:=h1;have:=YZ Z V hm;subst this;rw [ex] at hm⊢;rw [Nqv F hm];simp only [Tg]
 rcases E with E | ⟨J,U⟩
 case inr=>
  have Z:kind x.op=.r:=by cases hx:x.op<;>rw [hx] at J<;>simp [ZF] at J<;>rfl
  have V:∀mp f args,x.op≠.call mp f args:=fun mp f args e=>by rw [e] at J;simp [ZF] at J
  have e1:=Yt W Z h1;subst e1;refine ⟨I,h2, ?_⟩;have S:H1.length<=I.length:=XH W X hl h2;have O:∀{j:Nat},TT (NE H1 j)=true->NE I j=NE H1 j:=fun {j} l=>by
   obtain ⟨ro,c,ad⟩:=UK l;have P:j<H1.length:=(List.getElem?_eq_some_iff.1 (WK ad (by intro e;cases e))).1;unfold PR at h2;split at h2
   case h_2=>cases h2
   rename_i v1 T hm;simp only [Option.some.injEq,Prod.mk.injEq] at h2;obtain ⟨rfl,rfl⟩:=h2;rw [PQ] at S;by_cases F:∃i∈y.mask,base+i=j
   ·have:=Sc base H1 y.mask T F (by omega);unfold NE;rw [Nb,this];rfl
   ·have g:∀i∈y.mask,base+i≠j:=fun i hi e=>F ⟨i,hi,e⟩
    have am:NE (OI base y.mask H1) j=NE H1 j:=by
     unfold NE;rw [Nb,QT base y.mask _ g,<-Nb]
    have aq:Xr (OI base y.mask H1) T=true:=by
     cases hyo:y.op<;>rw [hyo] at U hm<;>simp [isRecs] at U;rename_i mp f args;cases mp<;>simp at U;simp only [R6] at hm;split at hm
     case h_2=>cases hm
     exact Nb2 hm
    have:=Njp aq (by rw [am];exact l);rw [am] at this;unfold NE at this⊢;rw [Nb,Ry base H1 y.mask T g,<-Nb];exact this
  have F:∀{j:Nat},TT (NE (OI base x.mask H1) j)=true->NE (OI base x.mask I) j=NE (OI base x.mask H1) j:=fun {j} l=>by
   obtain ⟨ro,c,ad⟩:=UK l;have P:j<H1.length:=by
    have:=(List.getElem?_eq_some_iff.1 (WK ad (by intro e;cases e))).1
    rwa [PG] at this
   by_cases hm:∃i∈x.mask,base+i=j
   ·have:=V4 base x.mask _ hm P;unfold NE at ad;rw [Nb,this] at ad;cases ad
   ·have g:∀i∈x.mask,base+i≠j:=fun i hi e=>hm ⟨i,hi,e⟩
    have e1:NE (OI base x.mask H1) j=NE H1 j:=by
     unfold NE;rw [Nb,QT base x.mask _ g,<-Nb]
    have e2:NE (OI base x.mask I) j=NE I j:=by
     unfold NE;rw [Nb,QT base x.mask _ g,<-Nb]
    rw [e1] at l;rw [e1,e2];exact O l
  unfold PR at h1⊢;rw [PD V] at h1⊢;split at h1
  case h_2=>cases h1
  rename_i v1 T hm;simp only [Option.some.injEq,Prod.mk.injEq] at h1;obtain ⟨rfl,_⟩:=h1;have:=YZ Z V hm;subst this;rw [Nqu J F hm];simp only [Tg]
 rcases E with E | ⟨J,U⟩
 case inr=>
  have Z:kind x.op=.r:=by cases hx:x.op<;>rw [hx] at J<;>simp [isLoad] at J<;>rfl
  have V:∀mp f args,x.op≠.call mp f args:=fun mp f args e=>by rw [e] at J;simp [isLoad] at J
  have e1:=Yt W Z h1;subst e1;refine ⟨I,h2, ?_⟩;have S:H1.length<=I.length:=XH W X hl h2;have O:∀{j:Nat} {ro:Bool} {c:List Value},NE H1 j=.cells ro c->NE I j=.cells ro c:=fun {j ro c} l=>by
   have P:j<H1.length:=(List.getElem?_eq_some_iff.1 (WK l (by intro e;cases e))).1;unfold PR at h2;split at h2
   case h_2=>cases h2
   rename_i v1 T hm;simp only [Option.some.injEq,Prod.mk.injEq] at h2;obtain ⟨rfl,rfl⟩:=h2;rw [PQ] at S;by_cases F:∃i∈y.mask,base+i=j
   ·have:=Sc base H1 y.mask T F (by omega);unfold NE;rw [Nb,this];exact l
   ·have g:∀i∈y.mask,base+i≠j:=fun i hi e=>F ⟨i,hi,e⟩
    have am:NE (OI base y.mask H1) j=.cells ro c:=by
     unfold NE;rw [Nb,QT base y.mask _ g,<-Nb];exact l
    have aq:Wn (OI base y.mask H1) T=true:=by
     cases hyo:y.op<;>rw [hyo] at U hm<;>simp [isMaps] at U;rename_i mp f args;cases mp<;>simp at U;simp only [R6] at hm;split at hm
     case h_2=>cases hm
     exact (Td hm).2 rfl
    have:=Ng5 aq am;unfold NE at this⊢;rw [Nb,Ry base H1 y.mask T g,<-Nb];exact this
  have F:∀{j:Nat} {ro:Bool} {c:List Value},NE (OI base x.mask H1) j=.cells ro c->NE (OI base x.mask I) j=.cells ro c:=fun {j ro c} l=>by
   have P:j<H1.length:=by
    have:=(List.getElem?_eq_some_iff.1 (WK l (by intro e;cases e))).1
    rwa [PG] at this
   by_cases hm:∃i∈x.mask,base+i=j
   ·have:=V4 base x.mask _ hm P;unfold NE at l;rw [Nb,this] at l;cases l
   ·have g:∀i∈x.mask,base+i≠j:=fun i hi e=>hm ⟨i,hi,e⟩
    have e1:NE (OI base x.mask H1) j=NE H1 j:=by
     unfold NE;rw [Nb,QT base x.mask _ g,<-Nb]
    have e2:NE (OI base x.mask I) j=NE I j:=by
     unfold NE;rw [Nb,QT base x.mask _ g,<-Nb]
    rw [e1] at l;rw [e2];exact O l
  unfold PR at h1⊢;rw [PD V] at h1⊢;split at h1
  case h_2=>cases h1
  rename_i v1 T hm;simp only [Option.some.injEq,Prod.mk.injEq] at h1;obtain ⟨rfl,_⟩:=h1;have:=YZ Z V hm;subst this;rw [Nqr J F hm];simp only [Tg]
 rcases E with E | ⟨J,U⟩
 case inr=>
  have Z:kind x.op=.r:=by cases hx:x.op<;>rw [hx] at J<;>simp [isRead] at J<;>rfl
  have V:∀mp f args,x.op≠.call mp f args:=fun mp f args e=>by rw [e] at J;simp [isRead] at J
  have e1:=Yt W Z h1;subst e1;refine ⟨I,h2, ?_⟩;have S:H1.length<=I.length:=XH W X hl h2;have O:∀j,j<H1.length->I[j]? = H1[j]?:=fun j l=>by
   unfold PR at h2;split at h2
   case h_2=>cases h2
   rename_i v1 T hm;simp only [Option.some.injEq,Prod.mk.injEq] at h2;obtain ⟨rfl,rfl⟩:=h2;rw [PQ] at S;have hk:∀j,j<(OI base y.mask H1).length->T[j]? = (OI base y.mask H1)[j]?:=by
    cases hyo:y.op<;>rw [hyo] at U hm<;>simp [N6b] at U;rename_i mp f args;cases mp<;>simp at U;simp only [R6] at hm;split at hm
    case h_2=>cases hm
    exact W.keep _ _ _ _ _ _ _ (Td hm).1 (Nf _)
   by_cases F:∃i∈y.mask,base+i=j
   ·rw [Sc base H1 y.mask T F (by omega),ZH l]
   ·have g:∀i∈y.mask,base+i≠j:=fun i hi e=>F ⟨i,hi,e⟩
    rw [Ry base H1 y.mask T g,hk j (by rw [PG];exact l),QT base y.mask _ g]
  have F:∀(j:Nat) b,(OI base x.mask H1)[j]? = some b->(OI base x.mask I)[j]? = some b:=fun j b l=>by
   have P:j<H1.length:=by
    have:=(List.getElem?_eq_some_iff.1 l).1
    rwa [PG] at this
   by_cases hm:∃i∈x.mask,base+i=j
   ·rw [V4 base x.mask _ hm P] at l;rw [V4 base x.mask _ hm (by omega)];exact l
   ·have g:∀i∈x.mask,base+i≠j:=fun i hi e=>hm ⟨i,hi,e⟩
    rw [QT base x.mask _ g] at l⊢;rw [O j P];exact l
  unfold PR at h1⊢;rw [PD V] at h1⊢;split at h1
  case h_2=>cases h1
  rename_i v1 T hm;simp only [Option.some.injEq,Prod.mk.injEq] at h1;obtain ⟨rfl,_⟩:=h1;have:=YZ Z V hm;subst this;rw [Nuo J F hm];simp only [Tg]
 rcases E with E | ⟨hL,ae⟩
 case inr=>
  obtain ⟨Z,mx,_⟩:=Nds hL;have ky:kind y.op=.r:=by cases X:y.op<;>rw [X] at ae<;>simp [isLoad] at ae<;>rfl
  have e2:=Yt W ky h2;subst e2;refine ⟨H, ?_,h1⟩;obtain ⟨d,hd⟩:=hx.dest mx;have az:=hs.maskY (.inl ky) d hd;have hk:∀(j:Nat) b,b≠.dead->(OI base y.mask I)[j]? = some b->(OI base y.mask H)[j]? = some b:=by
   intro j b L l;have S:I.length=H.length:=by
    unfold PR at h1;rw [PD (YU (.inr (.inr Z))),hd] at h1;simp only [Ny] at h1;split at h1
    case h_2=>cases h1
    rename_i v1 T hm;cases h1;rw [PQ,Ya Z hm,PG]
   have P:j<I.length:=by
    have:=(List.getElem?_eq_some_iff.1 l).1
    rwa [PG] at this
   by_cases hm:∃i∈y.mask,base+i=j
   ·rw [V4 base y.mask I hm P] at l;cases l;exact absurd rfl L
   ·have g:∀i∈y.mask,base+i≠j:=fun i hi e=>hm ⟨i,hi,e⟩
    rw [QT base y.mask _ g] at l⊢;unfold PR at h1;rw [PD (YU (.inr (.inr Z))),hd] at h1;simp only [Ny] at h1;split at h1
    case h_2=>cases h1
    rename_i v1 T F;cases h1;by_cases ax:∃i∈x.mask,base+i=j
    ·rw [Sc base H x.mask T ax (by rwa [PQ] at P)] at l;rw [<-l,ZH (by omega)]
    ·have an:∀i∈x.mask,base+i≠j:=fun i hi e=>ax ⟨i,hi,e⟩
     rw [Ry base H x.mask T an] at l;rcases Nv4 hL F j (fun e=>g d az e.symm) with h | h
     ·rw [h,QT base x.mask _ an] at l;exact l
     ·rw [h] at l;cases l;exact absurd rfl L
  have ah:∀{j:Nat} {ro:Bool} {c:List Value},NE (OI base y.mask I) j=.cells ro c->NE (OI base y.mask H) j=.cells ro c:=fun {j ro c} h=>by
   have:=hk j _ (by intro e;cases e) (WK h (by intro e;cases e));unfold NE;rw [Nb,this];rfl
  have av:∀mp f args,y.op≠.call mp f args:=fun mp f args e=>by rw [e] at ae;simp [isLoad] at ae
  have aw:NL lim (y.dest.map (base+·)) y.op (ev fr) (OI base y.mask H)=some (u,OI base y.mask H):=by
   unfold PR at h2;rw [PD av] at h2;split at h2
   case h_2=>cases h2
   rename_i v1 T hm;simp only [Option.some.injEq,Prod.mk.injEq] at h2;obtain ⟨rfl,_⟩:=h2;cases hyo:y.op<;>rw [hyo] at ae hm<;>simp [isLoad] at ae
   ·simp only [NL] at hm⊢;split at hm
    ·rename_i p hp;simp only [Nd,Prod.mk.injEq] at hm;obtain ⟨z,hz,rfl,_⟩:=hm;have:AM.loadCell (OI base y.mask H) p=some z:=by
      unfold AM.loadCell at hz⊢;split at hz
      ·rename_i L;rw [ah L];exact hz
      ·cases hz
     rw [this];rfl
    ·cases hm
   ·rename_i nn oa;simp only [NL] at hm⊢;split at hm
    ·rename_i p hp;simp only [Nd,Prod.mk.injEq] at hm;obtain ⟨z,hz,rfl,_⟩:=hm;have:AM.loadCells (OI base y.mask H) p nn=some z:=by
      unfold AM.loadCells at hz⊢;split at hz
      ·rename_i L;rw [ah L];exact hz
      ·cases hz
     rw [this];rfl
    ·cases hm
  unfold PR;rw [PD av,aw];simp only [Tg]
 by_cases ay:kind x.op=.s
 ·obtain ⟨r,hr⟩:=hx.home (VB ay);obtain ⟨b,rfl,o⟩:=Nr1 hx ay hr h1;by_cases aj:kind y.op=.s
  ·obtain ⟨r',G⟩:=X.home (VB aj);obtain ⟨b',rfl,M⟩:=Nr1 X aj G h2;have Y:r≠r':=fun e=>hs.dests r hr (by rw [G,e])
   exact ⟨_,M H (Xy (by omega)).symm,by rw [o _ (Xy (by omega)),List.set_comm _ _ (by omega)]⟩
  by_cases ab:kind y.op=.a
  ·obtain ⟨r',G⟩:=X.dest (ZA ab);obtain ⟨b',rfl,M⟩:=Nf9 X ab G h2;have Y:r≠r':=fun e=>hs.dests r hr (by rw [G,e])
   exact ⟨_,M H,by rw [o _ (Xy (by omega)),List.set_comm _ _ (by omega)]⟩
  ·have ky:kind y.op=.r\/kind y.op=.w\/kind y.op=.n\/kind y.op=.c:=by
    cases hk:kind y.op<;>simp_all
   rw [UA W X (hs.maskY ky r hr) _ _ _ hl (aa r (.inl hr))] at h2;cases L:PR C lim base y (ev fr) H with
   | none=>rw [L] at h2;cases h2
   | some p=>
     obtain ⟨u',R⟩:=p;rw [L] at h2;cases h2;exact ⟨R,rfl,o R (Nf8 W X (hs.maskY ky r hr) hl (aa r (.inl hr)) L)⟩
 by_cases aj:kind y.op=.s
 ·obtain ⟨r,hr⟩:=X.home (VB aj);obtain ⟨b,rfl,o⟩:=Nr1 X aj hr h2;by_cases ai:kind x.op=.a
  ·obtain ⟨r',G⟩:=hx.dest (ZA ai);obtain ⟨b',rfl,M⟩:=Nf9 hx ai G h1;have Y:r'≠r:=fun e=>hs.dests r' G (by rw [hr,e])
   exact ⟨_,o H (Xy (by omega)).symm,by rw [M,List.set_comm _ _ (by omega)]⟩
  ·have Z:kind x.op=.r\/kind x.op=.w\/kind x.op=.n\/kind x.op=.c:=by
    cases hk:kind x.op<;>simp_all
   exact ⟨_,o H (Nf8 W hx (hs.maskX Z r hr) hl (aa r (.inr hr)) h1).symm,by rw [UA W hx (hs.maskX Z r hr) _ _ _ hl (aa r (.inr hr)),h1];rfl⟩
 by_cases ai:kind x.op=.a
 ·obtain ⟨r,hr⟩:=hx.dest (ZA ai);obtain ⟨b,rfl,o⟩:=Nf9 hx ai hr h1;by_cases ab:kind y.op=.a
  ·obtain ⟨r',G⟩:=X.dest (ZA ab);obtain ⟨b',rfl,M⟩:=Nf9 X ab G h2;have Y:r≠r':=fun e=>hs.dests r hr (by rw [G,e])
   exact ⟨_,M H,by rw [o,List.set_comm _ _ (by omega)]⟩
  ·have ky:kind y.op=.r\/kind y.op=.w\/kind y.op=.n\/kind y.op=.c:=by
    cases hk:kind y.op<;>simp_all [conflict]
   rw [UA W X (hs.maskY ky r hr) _ _ _ hl (aa r (.inl hr))] at h2;cases L:PR C lim base y (ev fr) H with
   | none=>rw [L] at h2;cases h2
   | some p=>
     obtain ⟨u',R⟩:=p;rw [L] at h2;cases h2;exact ⟨R,rfl,o R⟩
 by_cases ab:kind y.op=.a
 ·obtain ⟨r,hr⟩:=X.dest (ZA ab);obtain ⟨b,rfl,o⟩:=Nf9 X ab hr h2;have Z:kind x.op=.r\/kind x.op=.w\/kind x.op=.n\/kind x.op=.c:=by
   cases hk:kind x.op<;>simp_all [conflict]
  exact ⟨_,o H,by rw [UA W hx (hs.maskX Z r hr) _ _ _ hl (aa r (.inr hr)),h1];rfl⟩
 have al:(kind x.op=.r\/kind x.op=.n)/\(kind y.op=.r\/kind y.op=.n):=by
  cases hk:kind x.op<;>cases hk':kind y.op<;>simp_all [conflict]
 by_cases au:kind x.op=.n\/kind y.op=.n
 ·have sx:H1=H\/∃r b,x.dest=some r/\H1=H.set (base+r) b:=by
   rcases al.1 with k | k
   ·exact .inl (Yt W k h1)
   ·obtain ⟨r,hr,h | ⟨b,h⟩⟩:=N29 hx k h1
    ·exact .inl h
    ·exact .inr ⟨r,b,hr,h⟩
  have a3:kind x.op=.r\/kind x.op=.w\/kind x.op=.n\/kind x.op=.c:=by rcases al.1 with k | k<;>simp [k]
  have a6:kind y.op=.r\/kind y.op=.w\/kind y.op=.n\/kind y.op=.c:=by rcases al.2 with k | k<;>simp [k]
  have sy:∀{A B:NA} {z:Value},PR C lim base y (ev fr) A=some (z,B)->B=A\/∃r b,y.dest=some r/\B=A.set (base+r) b:=by
   intro A B z h;rcases al.2 with k | k
   ·exact .inl (Yt W k h)
   ·obtain ⟨r,hr,h | ⟨b,h⟩⟩:=N29 X k h
    ·exact .inl h
    ·exact .inr ⟨r,b,hr,h⟩
  have later:∀{u:Value} {K:NA},PR C lim base y (ev fr) H=some (u,K)->∃K2,PR C lim base x (ev fr) K=some (v,K2)/\(∀r b,y.dest=some r->K=H.set (base+r) b->K2=H1.set (base+r) b)/\(K=H->K2=H1):=by
   intro u K hK;rcases sy hK with rfl | ⟨r,b,hr,rfl⟩
   ·refine ⟨H1,h1,fun r b hr L=>?_,fun _=>rfl⟩;rcases sx with rfl | ⟨r',b',G,rfl⟩
    ·exact L
    ·have Y:r'≠r:=fun e=>hs.dests r' G (by rw [hr,e])
     rw [List.set_comm _ _ (by omega),<-L]
   ·refine ⟨H1.set (base+r) b,by rw [UA W hx (hs.maskX a3 r hr) _ _ _ hl (aa r (.inr hr)),h1];rfl,fun r' b' G L=>?_,fun L=>?_⟩
    ·rw [hr] at G;cases G;rcases sx with rfl | ⟨r2,b2,Q,rfl⟩
     ·exact L
     ·have Y:r2≠r:=fun e=>hs.dests r2 Q (by rw [hr,e])
      rw [List.set_comm _ _ (by omega),List.set_comm _ _ (by omega:base+r2≠base+r),L]
    ·rcases sx with rfl | ⟨r2,b2,Q,rfl⟩
     ·exact L
     ·have Y:r2≠r:=fun e=>hs.dests r2 Q (by rw [hr,e])
      rw [List.set_comm _ _ (by omega),L]
  have a8:∃K,PR C lim base y (ev fr) H=some (u,K)/\(∀r b,x.dest=some r->H1=H.set (base+r) b->I=K.set (base+r) b)/\(H1=H->I=K):=by
   rcases sx with rfl | ⟨r,b,hr,rfl⟩
   ·refine ⟨I,h2,fun r b hr L=>?_,fun _=>rfl⟩;rcases sy h2 with rfl | ⟨r2,b2,Q,rfl⟩
    ·exact L
    ·have Y:r≠r2:=fun e=>hs.dests r hr (by rw [Q,e])
     rw [List.set_comm _ _ (by omega),<-L]
   ·rw [UA W X (hs.maskY a6 r hr) _ _ _ hl (aa r (.inl hr))] at h2;cases L:PR C lim base y (ev fr) H with
    | none=>rw [L] at h2;cases h2
    | some p=>
      obtain ⟨u',K⟩:=p;rw [L] at h2;cases h2;refine ⟨K,rfl,fun r' b' G ag=>?_,fun ag=>?_⟩
      ·rw [hr] at G;cases G;rcases sy L with rfl | ⟨r2,b2,Q,rfl⟩
       ·exact ag
       ·have Y:r≠r2:=fun e=>hs.dests r hr (by rw [Q,e])
        rw [List.set_comm _ _ (by omega),List.set_comm _ _ (by omega:base+r2≠base+r),ag]
      ·rcases sy L with rfl | ⟨r2,b2,Q,rfl⟩
       ·exact ag
       ·have Y:r≠r2:=fun e=>hs.dests r hr (by rw [Q,e])
        rw [List.set_comm _ _ (by omega),ag]
  obtain ⟨K,k1,k2,k3⟩:=a8;obtain ⟨K2,m1,m2,m3⟩:=later k1;refine ⟨K,k1, ?_⟩;rw [m1];congr 2;rcases sx with rfl | ⟨r,b,hr,L⟩
  ·rw [k3 rfl];rcases sy k1 with e | ⟨r2,b2,Q,e⟩
   ·rw [m3 e,e]
   ·rw [m2 r2 b2 Q e,e]
  ·rw [k2 r b hr L];rcases sy k1 with e | ⟨r2,b2,Q,e⟩
   ·rw [m3 e,L,e]
   ·have Y:r≠r2:=fun e=>hs.dests r hr (by rw [Q,e])
    rw [m2 r2 b2 Q e,L,e,List.set_comm _ _ (by omega)]
 have kr:kind x.op=.r/\kind y.op=.r:=by
  rcases al with ⟨k1 | k1,k2 | k2⟩
  ·exact ⟨k1,k2⟩
  ·exact absurd (.inr k2) au
  ·exact absurd (.inl k1) au
  ·exact absurd (.inl k1) au
 have e1:=Yt W kr.1 h1;subst e1;have e2:=Yt W kr.2 h2;subst e2;exact ⟨_,h2,h1⟩
theorem N1y (s:CallOk0 C) (t:Planned x) (w:Planned y) (hs:Sep x y) {f:Nat->Value} {l:NA} (hl:lim<=H.length) (k:∀r,x.dest=some r\/y.dest=some r->base+r<H.length) (h1:TW C N lim (some base) x fr H=some (fr1,H1)) (h2:TW C N lim (some base) y fr1 H1=some (f,l)) :
  ∃b c,TW C N lim (some base) y fr H=some (b,c)/\TW C N lim (some base) x b c=some (f,l):=by
 have a:=hs.apart;unfold Nb6 at a;have a1:∀d,x.dst=some d->d∉y.looks:=fun d e=>by rw [e] at a;simp at a;exact a.1.1
 have a2:∀d,x.dst=some d->y.dst≠some d:=fun d e=>by rw [e] at a;simp at a;exact a.1.2
 have o:∀d,y.dst=some d->d∉x.looks:=fun d e=>by rw [e] at a;simp at a;exact a.2
 unfold TW at h1 h2;cases hv:Tc C N lim (some base) x fr H with
 | none=>rw [hv] at h1;cases h1
 | some p=>
 obtain ⟨v,n⟩:=p;rw [hv] at h1;simp only [Nd,Prod.mk.injEq] at h1;obtain ⟨f1,g,rfl,rfl⟩:=h1;rw [Nfd g a1] at h2;cases hu:Tc C N lim (some base) y fr n with
 | none=>rw [hu] at h2;cases h2
 | some p=>
 obtain ⟨u,z⟩:=p;rw [hu] at h2;simp only [Nd,Prod.mk.injEq] at h2;obtain ⟨f2,j,rfl,rfl⟩:=h2;obtain ⟨h,e1,e2⟩:=Ntu s t w hs hl k hv hu;obtain ⟨i,m,q⟩:=put_comm g j a2;refine ⟨i,h,by simp only [TW,e1,m];rfl, ?_⟩;unfold TW;rw [Nfd m o,e2];simp [q]
def Zk (C:Ul) (N lim:Nat) (base:Option Nat):List AIns->(Nat->Value)->NA->Option ((Nat->Value)×NA)
 | [],fr,H=>some (fr,H)
 | i::l,fr,H=>match TW C N lim base i fr H with
   | some (fr',H')=>Zk C N lim base l fr' H'
   | none=>none
theorem XD {i:AIns} {l:List AIns} {r} (h:Zk C N lim b (i::l) fr H=some r):∃fr' H',TW C N lim b i fr H=some (fr',H')/\Zk C N lim b l fr' H'=some r:=by
 simp only [Zk] at h;split at h
 ·rename_i fr' H' h1;exact ⟨fr',H',h1,h⟩
 ·cases h
theorem N6f (a:CallOk0 C) {i:AIns} (hp:Planned i) (hl:lim<=H.length) (h:TW C N lim (some base) i fr H=some (fr',H')):H.length<=H'.length:=by
 unfold TW at h;cases hv:Tc C N lim (some base) i fr H with
 | none=>rw [hv] at h;cases h
 | some p=>
   obtain ⟨v,K⟩:=p;rw [hv] at h;simp only [Nd,Prod.mk.injEq] at h;obtain ⟨f,c,rfl,rfl⟩:=h;rw [SG] at hv;cases hw:RO N fr i.guard with
   | none=>rw [hw] at hv;cases hv
   | some b=>
     rw [hw] at hv;cases b with
     | false=>cases hv;exact Nf _
     | true=>exact XH a hp hl hv
theorem N27 (d:CallOk0 C) {x:AIns} (i:Planned x) (B:List AIns):∀(A:List AIns) (fr:Nat->Value) (H:NA) (r),lim<=H.length->(∀r,x.dest=some r->base+r<H.length)->(∀a∈A,(Planned a/\Sep a x)/\∀r,a.dest=some r->base+r<H.length)->Zk C N lim (some base) (A++x::B) fr H=some r->
  Zk C N lim (some base) (x::(A++B)) fr H=some r
 | [],fr,H,r,_,_,_,h=>h
 | a::A,fr,H,r,hl,c,hA,h=>by
   obtain ⟨fr1,H1,h1,h2⟩:=XD h;obtain ⟨⟨j,p⟩,l⟩:=hA a Nu;have g:=N6f d j hl h1;have ih:=N27 d i B A fr1 H1 r (by omega) (fun r hr=>by have:=c r hr;omega) (fun b f=>⟨(hA b (Nr _ f)).1,fun r hr=>by have:=(hA b (Nr _ f)).2 r hr;omega⟩) h2;obtain ⟨m,q,n,o⟩:=XD ih;obtain ⟨e,k,e1,e2⟩:=N1y d j i p hl (fun r hr=>by rcases hr with hr | hr;exact l r hr;exact c r hr) h1 n;simp only [Ox,Zk,e1,e2];exact o
end
structure Grow (lim:Nat) (H H':NA):Prop where
 new:∀(j:Nat) b,H'[j]? = some b->alive b=true->H[j]? = some b\/(owned b=true/\lim<=j)
 keep:∀j,j<lim->H'[j]? = H[j]?
instance {lim:Nat} {H H':NA}:CoeFun (Grow lim H H') (fun _=>∀(j:Nat) b,H'[j]? = some b->alive b=true->H[j]? = some b\/(owned b=true/\lim<=j)):=⟨Grow.new⟩
theorem Grow.refl (lim:Nat) (H:NA):Grow lim H H:=⟨fun _ _ h _=>.inl h,fun _ _=>rfl⟩
theorem Grow.trans {lim:Nat} {C:NA} (h:Grow lim A B) (k:Grow lim B C):Grow lim A C:=⟨fun j b d a=>by
 rcases k.new j b d a with h1 | h1
 ·exact h.new j b h1 a
 ·exact .inr h1,fun j c=>(k.keep j c).trans (h.keep j c)⟩
theorem Grow.weaken {lim lim':Nat} (h:Grow lim' A B) (hl:lim<=lim'):Grow lim A B:=⟨fun j b c a=>(h.new j b c a).imp id fun h=>⟨h.1,by omega⟩,fun j d=>h.keep j (by omega)⟩
theorem Grow.set {lim:Nat} {i:Nat} (hl:lim<=i) (d:alive b=true->owned b=true):Grow lim H (H.set i b):=⟨fun j c hc a=>by
 rw [Ob] at hc;split at hc
 ·rename_i e;split at hc
  ·cases hc;exact .inr ⟨d a,e▸hl⟩
  ·cases hc
 ·exact .inl hc,fun j f=>by rw [Ob,Ng (by omega)]⟩
theorem Grow.app {lim:Nat} (hl:lim<=H.length) (d:∀b∈X,alive b=true->owned b=true):Grow lim H (H++X):=⟨fun j c hc e=>by
 by_cases a:j<H.length
 ·rw [Oa a] at hc;exact .inl hc
 ·rw [Oi (by omega)] at hc;exact .inr ⟨d c (Oh hc) e,by omega⟩,fun j a=>Oa (by omega)⟩
theorem Grow.place {lim:Nat} (a:owned b=true) (hd:∀d,dest=some d->lim<=d) (hl:lim<=H.length):Grow lim H (place dest b H).2:=by
 cases dest with
 | some d=>exact Grow.set (hd d rfl) fun _=>a
 | none=>exact Grow.app hl fun c hc _=>by simp at hc;subst hc;exact a
theorem Grow.dead {lim:Nat} (hl:lim<=H.length) (n:Nat):Grow lim H (H++List.replicate n .dead):=
 Grow.app hl fun b c a=>by rw [(List.mem_replicate.1 c).2] at a;simp [alive] at a
theorem Ub {lim:Nat} (h:storeAt lim H a vs=some H'):Grow lim H H':=by
 unfold storeAt at h;split at h
 ·split at h
  ·rename_i hc;cases h;exact Grow.set hc.1 fun _=>rfl
  ·cases h
 ·cases h
theorem Ngi (hL:isL o=false) {lim:Nat} (hn:kind o≠.n) (h:NL lim dest o ρ H=some (v,H')) (hd:∀d,dest=some d->lim<=d) (hl:lim<=H.length):Grow lim H H':=by
 cases hk:kind o with
 | n=>exact absurd hk hn
 | p=>rw [(N1p hk h).1];exact Grow.refl _ _
 | r=>
   by_cases hc:∃mp f args,o=.call mp f args
   ·obtain ⟨mp,f,args,rfl⟩:=hc;simp [NL] at h
   ·rw [YZ hk (fun mp f args e=>hc ⟨mp,f,args,e⟩) h];exact Grow.refl _ _
 | c=>
   cases o<;>simp [kind] at hk;simp [NL] at h
 | a=>
   cases o<;>simp [kind] at hk<;>simp only [NL] at h
   case alloc=>cases h;exact Grow.place (b:=.cells false _) rfl hd hl
   case box=>
    split at h
    case isFalse=>cases h
    cases h;exact Grow.place (b:=.cells false _) rfl hd hl
   case buildSlice=>
    split at h
    case h_2=>cases h
    cases h;exact Grow.place (b:=.cells false _) rfl hd hl
   case makeSlice=>
    split at h
    case h_2=>cases h
    split at h
    case isFalse=>cases h
    cases h;exact Grow.place (b:=.cells false _) rfl hd hl
   case growNil=>
    split at h
    case h_2=>cases h
    split at h
    case isFalse=>cases h
    cases h;exact Grow.place (b:=.cells false _) rfl hd hl
   case makeMap=>
    split at h
    case h_2=>cases h
    cases h;exact Grow.place (b:=.map []) rfl hd hl
   case call mp f args=>split at hk<;>cases hk
 | s=>
   have hs:=VB hk;cases o<;>simp [YD] at hs;rename_i n a x;have h':=WS h;simp only [ZQ,NL] at h';split at h'
   ·split at h'
    ·simp only [Nd,Prod.mk.injEq] at h';obtain ⟨_,h1,_,rfl⟩:=h';exact Ub h1
    ·cases h'
   ·cases h'
 | w=>
   cases o<;>simp [kind] at hk<;>simp only [NL] at h
   case store=>
    split at h
    ·split at h
     ·simp only [Nd,Prod.mk.injEq] at h;obtain ⟨_,h1,_,rfl⟩:=h;exact Ub h1
     ·cases h
    ·cases h
   case storeO=>
    split at h
    ·split at h
     ·simp only [Nd,Prod.mk.injEq] at h;obtain ⟨_,h1,_,rfl⟩:=h;exact Ub h1
     ·cases h
    ·cases h
   case append=>
    unfold OP at h;split at h
    case h_2=>cases h
    split at h
    ·cases h
    split at h
    ·cases h;exact Grow.refl _ _
    split at h
    ·split at h
     ·cases h;exact Grow.place (b:=.cells false _) rfl hd hl
     ·cases h
    ·split at h
     ·cases h
     split at h
     ·split at h
      ·split at h
       ·cases h;exact (Grow.set (b:=.dead) ‹lim<=_› fun h=>by simp [alive] at h).trans (Grow.place (b:=.cells false _) rfl hd (by simpa using hl))
       ·cases h
      ·cases h
     ·split at h
      ·split at h
       ·split at h
        ·rename_i h1;cases h;exact Ub h1
        ·cases h
       ·cases h;exact Grow.place (b:=.cells false _) rfl hd hl
      ·cases h
   case copy=>
    split at h
    ·split at h
     ·split at h
      ·split at h
       ·cases h;exact Grow.refl _ _
       ·simp only [Nd,Prod.mk.injEq] at h;obtain ⟨_,h1,_,rfl⟩:=h;exact Ub h1
      ·split at h
       ·cases h;exact Grow.refl _ _
       ·cases h
     ·cases h
    ·cases h
   case mapUpdate=>
    split at h
    ·split at h
     ·split at h
      ·rename_i hc;split at h<;>cases h
       ·exact Grow.set hc.2 fun _=>rfl
       ·exact Grow.set hc.2 fun _=>rfl
      ·cases h
     ·cases h
    ·cases h
   case clear=>
    split at h
    ·split at h
     ·cases h;exact Grow.refl _ _
     ·simp only [Nd,Prod.mk.injEq] at h;obtain ⟨_,h1,_,rfl⟩:=h;exact Ub h1
    ·cases h
   case delete=>cases h
   case call mp f args=>split at hk<;>cases hk
   case appendL=>simp [isL] at hL
theorem Ni5 {lim:Nat} (hn:kind o≠.n) (h:NL lim dest o ρ H=some (v,H')) (hd:∀d,dest=some d->lim<=d) (hl:lim<=H.length):Grow lim H H':=by
 cases hL:isL o with
 | false=>exact Ngi hL hn h hd hl
 | true=>obtain ⟨_,_,h1,h2,_⟩:=Nds hL;exact Ngi h1 (by rw [h2];simp) (WS h) hd hl
theorem Ngj {lim:Nat} (h:NL lim dest o ρ H=some (v,H')) (hd:∀d,dest=some d->lim<=d) (hl:lim<=H.length):Grow lim H H':=by
 by_cases hn:kind o=.n
 ·cases o<;>(try (simp [kind] at hn;done))
  ·exact Ni5 (by simp [ZQ,kind]) (WS h) hd hl
  ·rename_i mp f as';cases mp<;>simp [kind,CM.isPure] at hn
 ·exact Ni5 hn h hd hl
def Sj (Pg:Prg) (W:Nat->Prop) (lim:Nat) (σ:PO) (H:NA) (v:Value) (H':NA) (w:World):Ending->World->Prop:=fun e w'=>
 ∃v' a,e=.returned v'/\VRel a v v'/\Inv Pg W lim a H' w'/\Stp W w w'/\PO.le σ a/\∀j,a j≠σ j->H.length<=j
def Tz (r:Loop) (args:Array Value):Array Value:=(r.params.zip args).foldl (fun tmps (t,a)=>tmps.setIfInBounds t a) r.tmps
structure CallOk (Pg:Prg) (C:Ul):Prop extends CallOk0 C where
 fn:∀mp lim g as H v H',C mp lim (.inl g) as H=some (v,H')->∃fn,Pg.P.funcs[g]? = some fn/\fn.body.isSome=true/\(fn.name == "runtime.NumGoroutine")=false
 calls:∀mp lim g as H v H',C mp lim (.inl g) as H=some (v,H')->lim<=H.length->∀W σ w as',Inv Pg W lim σ H w->OV σ as as'->Calls Pg.P g as'.toArray w (Sj Pg W lim σ H v H' w)
 rounds:∀mp lim i as H v H',C mp lim (.inr i) as H=some (v,H')->lim<=H.length->∀W σ w as' L,Inv Pg W lim σ H w->OV σ as as'->σ i=some L->
  ∃r,w.heap[L.blk]? = some (.loop r)/\as'.toArray.size=r.params.size/\RoundIn Fence.wide 0 Pg.P L.blk r.fn (Tz r as'.toArray) r.assign r.body w (Sj Pg W lim σ H v H' w)
 grow:∀mp lim g as H v H',C mp lim g as H=some (v,H')->lim<=H.length->Grow lim H H'
def WF (ro:Option Nat):Fence:={ Fence.wide with round:=ro }
theorem MG:(WF ro).depth.isSome=true->1<=0:=fun h=>by cases h
theorem Nf3 {args:Array Value} (h:Calls P f args w R):CallsIn (WF ro) n P f args w R:=
 ⟨trivial,(callsIn_wide (n:=n).2 h).2⟩
theorem Nei {m:Nat} {l:Nat} {tmps:Array Value} {assign body:Code} (h:RoundIn Fence.wide m P l f tmps assign body w R):RoundIn (WF ro) n P l f tmps assign body w R:=
 ⟨trivial,fun c cs _=>h.2 c cs (room_wide _)⟩
section
variable {P:Program} {pf pureF:FuncId->Bool} {C:Ul} {W:Nat->Prop} {lim:Nat} {σ:PO} {H H':NA} {w:World} {dest:Option Nat}
variable {Pp:Prg} {f:Operand} {Q:Exit->Act->World->Prop} {K:Act->World->Prop} {ao:AOp} {ρ' ρ:Operand->Value} {ro:Option Nat} {c:Call} {a:Act} {v:Value} {ca:Array Value} {o:Oper} {lim':Nat}
def Mj (Pp:Prg) (W:Nat->Prop) (lim:Nat) (σ:PO) (dest:Option Nat) (H:NA) (w:World) (v:Value) (H':NA) (v':Value) (w':World) (a:PO):Prop:=
 VRel a v v'/\Inv Pp W lim a H' w'/\Stp W w w'/\PO.le σ a/\(∀j,a j≠σ j->dest=some j\/H.length<=j)/\H.length<=H'.length/\Grow lim H H'
theorem Nf6 (ho:o.op=.call c) (hc:c.callee=.value f) {g:FuncId} {fi:Array Value} (hf:ρ' f=.func (.func g) fi ca)
  {fn:Func} (h1:P.funcs[g]? = some fn) (h2:fn.body.isSome=true) (h3:(fn.name == "runtime.NumGoroutine")=false) :
  (execOp ρ' o).run P w=.ok (.enter g (fi++c.args.map ρ'++ca)) w:=by
 have hb:fn.body.isNone=false:=by cases h:fn.body<;>simp_all
 have h3':¬(fn.name= "runtime.NumGoroutine"):=by simpa using h3
 simp [execOp,ho,resolve,hc,Deferred.ofValue,hf,invoke,callFunc,h1,h3'];intro h;rw [h] at h2;cases h2
theorem VRel.yld_left {i:Nat} {a:Array Value} {v':Value} (h:VRel σ (.func (.yield i) a ca) v'):∃L,σ i=some L/\a=#[]/\ca=#[]/\v'=.func (.yield L.blk) #[] #[]:=by
 cases h with
 | atom h=>simp [AM.atom] at h
 | yld h=>exact ⟨_,h,rfl,rfl,rfl⟩
theorem Nf5 (ho:o.op=.call c) (hc:c.callee=.value f) {l:Nat} (a:ρ' f=.func (.yield l) #[] #[])
  {r:Loop} (h1:w.heap[l]? = some (.loop r)) (h2:(c.args.map ρ').size=r.params.size) :
  (execOp ρ' o).run P w=.ok (.round l r.fn (Tz r (c.args.map ρ')) r.assign r.body) w:=by
 have:=run_yield (P:=P) h1 h2;simp [execOp,ho,resolve,hc,Deferred.ofValue,a,invoke];simpa [Tz] using this
theorem CM.lim_le (mp:CM) (hl:lim<=H.length):lim<=mp.lim lim H/\mp.lim lim H<=H.length:=by cases mp<;>simp [CM.lim,hl]
theorem Inv.up (h:Inv Pp W lim σ H w) (hl:lim<=lim'):Inv Pp W lim' σ H w:=⟨h.blk,h.inj,fun i b L a ho c hL=>h.wr i b L a ho (by omega) hL,h.fresh,h.dom⟩
theorem Inv.back {e:PO} {w':World} (a:Inv Pp W lim σ H w) (h:Inv Pp W lim' e H' w') (c:PO.le σ e) (j:Grow lim' H H'):Inv Pp W lim e H' w':=
 ⟨h.blk,h.inj,fun i b L g ho d hL=>(j.new i b g (PS ho)).elim (fun h1=>by
  obtain ⟨L0,h2,_⟩:=a.blk i b h1 (PS ho);have f:=c _ _ h2;rw [hL] at f;cases f;exact a.wr i b L h1 ho d h2) (fun h1=>h.wr i b L g ho h1.2 hL),h.fresh,h.dom⟩
theorem Nd3 (D:CallOk (Prg.mk P pf) C) {O:Bool} {y:AOp} (k:Na8 P pureF O o=some y) (R:ao=y\/∃m f as,ao=.call m f as/\y=.call .any f as) (t:Inv (Prg.mk P pf) W lim σ H w) (hl:lim<=H.length) (ad:∀d,dest=some d->lim<=d) (hd:∀d,dest=some d->d<H.length/\σ d=none) (hρ:∀x,QB x=true->VRel σ (ρ x) (a.eval x)) (hx:R6 C lim dest ao ρ H=some (v,H')) (hK:∀v' w' N,Mj (Prg.mk P pf) W lim σ dest H w v H' v' w' N->K (a.put o.dst v') w'):o.wpIn (WF ro) 0 P a w K Q:=by
 by_cases A:∃mp f args,ao=.call mp f args
 ·obtain ⟨mp,f,args,rfl⟩:=A;obtain ⟨Y,rfl⟩:∃Y,y=.call Y f args:=by
   rcases R with h | ⟨m',f',as',h,h'⟩
   ·exact ⟨mp,h.symm⟩
   ·cases h;exact ⟨.any,h'⟩
  have ah:∃c,o.op=.call c/\c.callee=.value f/\args=c.args.toList/\∀x∈o.op.operands,QB x=true:=by
   obtain ⟨dst,op,type,pos,after,guard⟩:=o;unfold Na8 at k;split at k
   ·cases k
   rename_i U;simp only [Bool.not_eq_true,Bool.not_eq_false'] at U;have u:∀x∈op.operands,QB x=true:=fun x hx=>Nmg (o:=⟨dst,op,type,pos,after,guard⟩) (by simpa using U) hx
   cases op<;>(try simp only at k)<;>try (cases k;done)
   case call c=>
    refine ⟨c,rfl, ?_⟩;cases hc:c.callee with
    | value f'=>rw [hc] at k;simp at k;obtain ⟨_,rfl,rfl⟩:=k;exact ⟨rfl,rfl,u⟩
    | invoke r m=>rw [hc] at k;simp at k
    | builtin b=>
      rw [hc] at k;exfalso;cases b<;>(try simp only at k)<;>(try (cases k;done))<;>(repeat' (split at k))<;>first
       | (cases k;done)
       | (simp only [Nd] at k;obtain ⟨_,_,k⟩:=k;cases k;done)
       | (exfalso;simp at k;done)
       | (obtain ⟨_,_,k⟩:=OM k;obtain ⟨_,_,k⟩:=OM k;obtain ⟨_,_,k⟩:=OM k;split at k<;>cases k;done)
   all_goals exfalso
   all_goals (repeat' (first | (obtain ⟨_,_,k⟩:=OM k) | split at k))
   all_goals first
    | (cases k;done)
    | (simp only [Nd] at k;obtain ⟨_,_,k⟩:=k;cases k;done)
    | contradiction
  obtain ⟨c,ho,q,rfl,u⟩:=ah;simp only [R6] at hx;split at hx
  case h_2=>cases hx
  rename_i g as n;replace hx:=(Td hx).1;obtain ⟨F,l⟩:=CM.lim_le mp hl;have p:=t.up F;generalize mp.lim lim H=lim' at hx F l p;generalize mp.isPure=ai at hx;have X:∀{ρ'},o.semAt (WF ro).round ρ'=execOp ρ' o:=fun {ρ'}=>Oper.semAt_eq _ _ _ fun c' e=>by rw [ho] at e;cases e
  refine ⟨fun _ _=>trivial, ?_⟩;rw [X];have ag:QB f=true:=u f (by rw [ho];simp [Op.operands,Call.operands,q]);have E:=hρ f ag;have z:OV σ (c.args.toList.map ρ) (c.args.map a.eval).toList:=by
   have:(c.args.map a.eval).toList=c.args.toList.map a.eval:=by simp
   rw [this];exact VX fun x hx=>hρ x (u x (by rw [ho];simp only [Op.operands,Call.operands,q];simp at hx⊢;exact .inr hx))
  unfold NF at n;split at n
  case h_3=>cases n
  case h_2=>
   rename_i i fi ca hf;simp only [Option.some.injEq,Prod.mk.injEq] at n;obtain ⟨rfl,rfl⟩:=n;rw [hf] at E;obtain ⟨L,hL,rfl,rfl,J⟩:=E.yld_left;simp only [Og,Na] at hx;obtain ⟨r,h1,h2,h3⟩:=D.rounds _ _ _ _ _ _ _ hx l W σ w _ L p z hL;simp only [Array.toArray_toList] at h2 h3;rw [Nf5 (P:=P) ho q J h1 h2,Oper.uponIn_round];refine ⟨MG,Nei (h3.mono fun en w' hp=>?_)⟩;obtain ⟨v',N,rfl,Z,q2,q3,M,q5⟩:=hp;exact hK v' w' N ⟨Z,t.back q2 M (D.grow _ _ _ _ _ _ _ hx l),q3,M,fun j S=>.inr (q5 j S),D.len _ _ _ _ _ _ _ hx l,(D.grow _ _ _ _ _ _ _ hx l).weaken F⟩
  rename_i g' fi ca hf;simp only [Option.some.injEq,Prod.mk.injEq] at n;obtain ⟨rfl,rfl⟩:=n;rw [hf] at E;obtain ⟨I,G,J,ae,aa⟩:=E.func_left;obtain ⟨fn,h1,h2,h3⟩:=D.fn _ _ _ _ _ _ _ hx;have V:=Nf6 (P:=P) (w:=w) ho q J h1 h2 h3;have s:=D.calls _ _ _ _ _ _ _ hx l W σ w (I.toList++(c.args.map a.eval).toList++G.toList) p ((ae.append z).append aa);have e:(I.toList++(c.args.map a.eval).toList++G.toList).toArray=I++c.args.map a.eval++G:=by
   apply Array.ext';simp
  rw [e] at s;rw [V,Oper.uponIn_enter];refine ⟨MG,Nf3 (s.mono fun en w' hp=>?_)⟩;obtain ⟨v',N,rfl,Z,q2,q3,M,q5⟩:=hp;exact hK v' w' N ⟨Z,t.back q2 M (D.grow _ _ _ _ _ _ _ hx l),q3,M,fun j S=>.inr (q5 j S),D.len _ _ _ _ _ _ _ hx l,(D.grow _ _ _ _ _ _ _ hx l).weaken F⟩
 ·have T:∀mp f args,ao≠.call mp f args:=fun mp f args e=>A ⟨mp,f,args,e⟩
  obtain rfl:ao=y:=by
   rcases R with h | ⟨m',f',as',h,_⟩
   ·exact h
   ·exact absurd h (T _ _ _)
  rw [PD T] at hx;obtain ⟨nx,w',N,v',hr,hn,Z,q2,q3,M,q5,q6,q7⟩:=Nxd k t hρ hd hx;have B:Mj (Prg.mk P pf) W lim σ dest H w v H' v' w' N:=⟨Z,q2,q3,M,fun j S=>(q5 j S).imp id (·.2),q6,Ngj hx ad hl⟩
  have ab:∀c,o.op≠.defer c:=fun c e=>by
   obtain ⟨dst,op,type,pos,after,guard⟩:=o;simp only at e;subst e;unfold Na8 at k;split at k<;>simp at k
  refine ⟨fun _ _=>trivial, ?_⟩;rw [Oper.semAt_eq _ _ _ ab,hr];cases nx<;>simp [Nj1] at hn
  ·subst hn;rw [Oper.uponIn_value];exact hK _ _ _ B
  ·subst hn;rw [Oper.uponIn_skip];exact hK _ _ _ B
theorem Nt4 (g:CallOk (Prg.mk P pf) C) {b:Bool} (f:Na8 P pureF b o=some ao) (c:Inv (Prg.mk P pf) W lim σ H w) (hl:lim<=H.length) (e:∀d,dest=some d->lim<=d) (hd:∀d,dest=some d->d<H.length/\σ d=none) (j:∀x,QB x=true->VRel σ (ρ x) (a.eval x)) (i:R6 C lim dest ao ρ H=some (v,H')) (h:∀v' w' k,Mj (Prg.mk P pf) W lim σ dest H w v H' v' w' k->K (a.put o.dst v') w'):o.wpIn (WF ro) 0 P a w K Q:=
 Nd3 g f (.inl rfl) c hl e hd j i h
end
section
variable {P:Program} {pf pureF:FuncId->Bool} {C:Ul} {W:Nat->Prop} {lim:Nat} {σ:PO} {H H':NA} {w:World} {dest:Option Nat} {ds:List Deferred} {ro:Option Nat}
variable {ops:Array Oper} {Q:Exit->Act->World->Prop} {g:Option (Nat×Bool)} {K:Act->World->Prop} {N:Nat} {a:Act} {o:Oper} {fr fr':Nat->Value}
theorem Inv.mask (base:Nat):∀(l:List Nat) {H:NA},Inv (Prg.mk P pf) W lim σ H w->Inv (Prg.mk P pf) W lim σ (OI base l H) w
 | [],_,h=>h
 | i::l,H,h=>by
   simp only [OI,O1];exact Inv.mask base l (h.killAny (base+i))
theorem Nmu (c:Inv (Prg.mk P pf) W lim σ H w) (base:Nat) (l:List Nat) (O:∀i∈l,∀b,H[base+i]? = some b->alive b=true->owned b=true) (N:lim<=base) :
  ∃M:Nat->Prop,Inv (Prg.mk P pf) M lim σ (OI base l H) w/\∀v g v' w' G,Mj (Prg.mk P pf) M lim σ dest (OI base l H) w v g v' w' G->Mj (Prg.mk P pf) W lim σ dest H w v (OE base l H g) v' w' G:=by
 refine ⟨fun b=>W b/\∀i∈l,∀bl L,H[base+i]? = some bl->alive bl=true->σ (base+i)=some L->L.blk≠b, ?_, ?_⟩
 ·have hm:=c.mask base l;have get:∀(j:Nat) b,(OI base l H)[j]? = some b->alive b=true->H[j]? = some b/\∀i∈l,base+i≠j:=fun j b a o=>by
   by_cases f:∃i∈l,base+i=j
   ·have z:j<H.length:=by
     have:=(List.getElem?_eq_some_iff.1 a).1;rw [PG] at this;exact this
    rw [V4 base l H f z] at a;cases a;simp [alive] at o
   ·have n:∀i∈l,base+i≠j:=fun i hi e=>f ⟨i,hi,e⟩
    rw [QT base l H n] at a;exact ⟨a,n⟩
  refine ⟨hm.blk,hm.inj,fun i b L a ho hl hL=>⟨hm.wr i b L a ho hl hL,fun k hk bl K x r u e=>?_⟩,fun b a=>⟨hm.fresh b a,fun k hk bl K x r u e=>?_⟩,hm.dom⟩
  ·obtain ⟨h1,h2⟩:=get i b a (PS ho);exact c.inj i (base+k) b bl L K h1 x (fun e=>h2 k hk e.symm) ho r hL u e.symm
  ·obtain ⟨V,h1,h2⟩:=c.blk (base+k) bl x r;rw [u] at h1;cases h1;have:=h2.lt r;omega
 ·rintro v g v' w' G ⟨U,A,B,J,Q,R,S⟩;rw [PG] at Q R;have F:Stp W w w':=⟨B.os,B.tape,B.output,B.size,fun b a=>B.block b fun h=>a h.1⟩
  have same:∀i L,σ i=some L->G i=some L:=J;have get:∀(j:Nat) b,(OE base l H g)[j]? = some b->alive b=true->(H[j]? = some b/\∃i∈l,base+i=j)\/(g[j]? = some b/\∀i∈l,base+i≠j):=fun j b a o=>by
   by_cases f:∃i∈l,base+i=j
   ·have z:j<g.length:=by
     have:=(List.getElem?_eq_some_iff.1 a).1;rw [PQ] at this;exact this
    rw [Sc base H l g f z] at a;simp only [Option.some.injEq] at a;exact .inl ⟨RB a o,f⟩
   ·have n:∀i∈l,base+i≠j:=fun i hi e=>f ⟨i,hi,e⟩
    rw [Ry base H l g n] at a;exact .inr ⟨a,n⟩
  have old:∀(j:Nat) b,g[j]? = some b->alive b=true->(∀i∈l,base+i≠j)->H[j]? = some b\/(owned b=true/\lim<=j):=fun j b a o f=>by
   rcases S j b a o with h | h
   ·rw [QT base l H f] at h;exact .inl h
   ·exact .inr h
  have q:∀(j:Nat) b Lj,H[j]? = some b->alive b=true->G j=some Lj->σ j=some Lj:=fun j b Lj a o f=>by
   obtain ⟨L,h1,_⟩:=c.blk j b a o;have:=same _ _ h1;rw [this] at f;cases f;exact h1
  refine ⟨U,⟨fun j b a o=>?_,fun i j bi bj Li Lj I C s m d hi f=>?_,fun i b L a ho E hL=>?_,fun b a=>(A.fresh b a).1,fun j f=>A.dom j (by rw [PQ] at f;exact f)⟩,F,J,Q,by rw [PQ];exact R,⟨fun j b a o=>?_,fun j f=>by
   have n:∀i∈l,base+i≠j:=fun i hi e=>by omega
   rw [Ry base H l g n,S.keep j f,QT base l H n]⟩⟩
  ·rcases get j b a o with ⟨h1,h2⟩ | ⟨h1,h2⟩
   ·obtain ⟨L,p,t⟩:=c.blk j b h1 o;refine ⟨L,same _ _ p,t.mono J fun _=>B.block _ fun T=>?_⟩;obtain ⟨k,hk,rfl⟩:=h2;exact T.2 k hk b L h1 o p rfl
   ·exact A.blk j b h1 o
  ·rcases get i bi I (PS m) with ⟨h1,h2⟩ | ⟨h1,h2⟩
   ·have y:=q i bi Li h1 (PS m) hi;rcases get j bj C d with ⟨p,t⟩ | ⟨p,t⟩
    ·exact c.inj i j bi bj Li Lj h1 p s m d y (q j bj Lj p d f)
    ·rcases old j bj p d t with h | h
     ·exact c.inj i j bi bj Li Lj h1 h s m d y (q j bj Lj h d f)
     ·have:=A.wr j bj Lj p h.1 h.2 f;obtain ⟨k,hk,rfl⟩:=h2;exact this.2 k hk bi Li h1 (PS m) y
   ·rcases get j bj C d with ⟨p,t⟩ | ⟨p,t⟩
    ·have D:=q j bj Lj p d f;rcases old i bi h1 (PS m) h2 with h | h
     ·exact c.inj i j bi bj Li Lj h p s m d (q i bi Li h (PS m) hi) D
     ·have:=A.wr i bi Li h1 h.1 h.2 hi;obtain ⟨k,hk,rfl⟩:=t;exact fun e=>this.2 k hk bj Lj p d D e.symm
    ·exact A.inj i j bi bj Li Lj h1 p s m d hi f
  ·rcases get i b a (PS ho) with ⟨h1,h2⟩ | ⟨h1,h2⟩
   ·exact c.wr i b L h1 ho E (q i b L h1 (PS ho) hL)
   ·exact (A.wr i b L h1 ho E hL).1
  ·rcases get j b a o with ⟨h1,h2⟩ | ⟨h1,h2⟩
   ·exact .inl h1
   ·exact old j b h1 o h2
structure FrRel (ds:List Deferred) (σ:PO) (N:Nat) (fr:Nat->Value) (a:Act):Prop where
 size:N<=a.tmps.size
 defers:a.defers=ds
 val:∀t,VRel σ (fr t) (a.tmps.getD t undef)
theorem FrRel.mono {σ τ:PO} (h:FrRel ds σ N fr a) (b:PO.le σ τ):FrRel ds τ N fr a:=⟨h.size,h.defers,fun t=>(h.val t).mono b⟩
theorem FrRel.ev {σ:PO} (h:FrRel ds σ N fr a) {x:Operand} (b:QB x=true):VRel σ (ev fr x) (a.eval x):=by
 cases x with
 | tmp t=>exact h.val t
 | const v=>
   have c:atom v=true:=by simpa [QB] using b
   exact .atom c
 | func f=>exact .atom rfl
 | global g=>simp [QB] at b
theorem FrRel.put {σ:PO} (h:FrRel ds σ N fr a) {dst:Option Nat} {v v':Value} (b:VRel σ v v') (hp:YP N fr dst v=some fr'):FrRel ds σ N fr' (a.put dst v'):=by
 cases dst with
 | none=>cases hp;exact h
 | some d=>
   simp only [YP] at hp;split at hp
   case isFalse=>cases hp
   rename_i hd;cases hp;refine ⟨by simpa [Act.put] using h.size,h.defers,fun t=>?_⟩;simp only [Act.put,upd,N8];by_cases e:t=d
   ·subst e;have:t<a.tmps.size:=by have:=h.size;omega
    rw [Nl rfl,Array.getElem?_setIfInBounds_self_of_lt this];exact b
   ·rw [Ng e,Pz (fun h=>e h.symm),<-N8];exact h.val t
theorem FrRel.wanted {σ:PO} (h:FrRel ds σ N fr a) (i:MK ops o.guard=some g) {b:Bool} (k:RO N fr g=some b) :
  Region.wanted o (yielded ops a.tmps)=b:=by
 unfold MK at i;cases ho:o.guard with
 | none=>
   rw [ho] at i;simp at i;subst i;simp [RO] at k;subst k;simp [Region.wanted,ho]
 | some p=>
   obtain ⟨j,c⟩:=p;rw [ho] at i;simp only at i;split at i
   case h_2=>cases i
   rename_i t q;simp only [Option.some.injEq] at i;subst i;simp only [RO] at k;split at k
   case isFalse=>cases k
   rename_i n;have m:t<a.tmps.size:=Nat.lt_of_lt_of_le n h.size;have f:=h.val t;rw [N8,Of m] at f;simp only [Pj] at f;have r:yielded ops a.tmps j=match a.tmps[t] with | .bool b=>some b | _=>none:=by
    unfold yielded;rw [q];simp only [Option.bind_some,Of m];cases a.tmps[t]<;>rfl
   simp only [Region.wanted,ho,r];split at k
   ·rename_i d hd;rw [hd] at f;rw [f.bool_left];simp only [Option.some.injEq] at k;rw [<-k];simp
   ·rename_i l;simp only [Option.some.injEq] at k;rw [<-k];have:∀d,a.tmps[t]≠.bool d:=fun d e=>by
     rw [e] at f;generalize fr t=x at f l;cases f;exact l d rfl
    cases hx:a.tmps[t]<;>first | (exact absurd hx (this _)) | simp
structure State (Pp:Prg) (ds:List Deferred) (W:Nat->Prop) (lim:Nat) (σ:PO) (N:Nat) (fr:Nat->Value) (H:NA) (a:Act) (w:World):Prop where
 fr:FrRel ds σ N fr a
 inv:Inv Pp W lim σ H w
 lim:lim<=H.length
structure Kept (σ:PO) (H:NA) (base n:Nat) (todo:List Nat):Prop where
 len:base+n<=H.length
 own:∀r,r<n->∀b,H[base+r]? = some b->alive b=true->owned b=true
 free:∀r∈todo,σ (base+r)=none
 lt:∀r∈todo,r<n
theorem Nd4 {C:Ul} {o:AOp} {lim:Nat} {dest:Option Nat} {ρ:Operand->Value} {H:NA} {r} (h:R6 C lim dest o ρ H=some r):R6 C lim dest (ZQ o) ρ H=some r:=by
 by_cases hc:∃mp f args,o=.call mp f args
 ·obtain ⟨mp,f,args,rfl⟩:=hc;exact h
 ·have a:∀mp f args,o≠.call mp f args:=fun mp f args e=>hc ⟨mp,f,args,e⟩
  rw [PD a] at h;have b:∀mp f args,ZQ o≠.call mp f args:=fun mp f args e=>by
   cases o<;>simp only [ZQ] at e<;>first | (cases e;done) | (exact a _ _ _ e) | (split at e<;>first | (cases e;done) | (rename_i c;cases c;done) | (exact a _ _ _ e))
  rw [PD b];exact WS h
theorem N61 (hC:CallOk (Prg.mk P pf) C) {j:Nat} (B:ops[j]? = some o) {i0:AIns} (l:Nsm P pureF true ops o=some i0) {i:AIns} (hi:i.dst=i0.dst/\i.guard=i0.guard/\(i.op=i0.op\/ZQ i.op=i0.op\/∃m f as,i.op=.call m f as/\i0.op=.call .any f as)) (R:YD i0.op=false)
  {base n:Nat} (hs:State (Prg.mk P pf) ds W lim σ N fr H a w) (J:lim<=base) {todo:List Nat} (hk:Kept σ H base n todo) (A:∀r,i.made=some r->r∈todo/\r<n) (s:∀r∈i.mask,r<n)
  (k:TW C N lim (some base) i fr H=some (fr',H'))
  (T:∀u a' w',State (Prg.mk P pf) ds W lim u N fr' H' a' w'->Stp W w w'->PO.le σ u->Grow lim H H'->Kept u H' base n (todo.filter fun r=>i.made≠some r)->(∀j,u j≠σ j->(∃r,i.made=some r/\j=base+r)\/H.length<=j)->H.length<=H'.length->K a' w'):wpOpIn (WF ro) 0 P ops Q j K a w:=by
 obtain ⟨ao,F,l⟩:=OM l;obtain ⟨g,hg,l⟩:=OM l;cases l;obtain ⟨e1,e2,e3⟩:=hi;simp only at e1 e2 e3;unfold wpOpIn;rw [B];simp only;unfold TW at k;rw [SG,e2,e1] at k;cases hw:RO N fr g with
 | none=>rw [hw] at k;cases k
 | some b=>
 rw [hs.fr.wanted hg hw];rw [hw] at k;cases b with
 | false=>
   simp only [N3,if_false];simp only [Nd,Prod.mk.injEq] at k;obtain ⟨f,I,rfl,rfl⟩:=k;exact ⟨fun _ _=>trivial,T σ _ w ⟨hs.fr.put (.atom rfl) I,hs.inv,hs.lim⟩ (Stp.refl _ _) (PO.le_refl _) (Grow.refl _ _) ⟨hk.len,hk.own,fun r hr=>hk.free r (O0.1 hr).1,fun r hr=>hk.lt r (O0.1 hr).1⟩ (fun j B=>absurd rfl B) (Nf _)⟩
 | true=>
   simp only [if_true];simp only [PR] at k;split at k
   case h_2=>cases k
   rename_i v H1 E;split at E
   case h_2=>cases E
   rename_i v1 Y c;simp only [Option.some.injEq,Prod.mk.injEq] at E;obtain ⟨rfl,rfl⟩:=E;simp only [Nd,Prod.mk.injEq] at k;obtain ⟨f,I,rfl,rfl⟩:=k;obtain ⟨p,c,q⟩:∃p,R6 C lim (i.made.map (base+·)) p (ev fr) (OI base i.mask H)=some (v1,Y)/\(p=ao\/∃m f as,p=.call m f as/\ao=.call .any f as):=by
    cases hS:YD i.op with
    | false=>
      have t:i.made=i.dest:=by simp [AIns.made,hS]
      rw [t];rcases e3 with e3 | e3 | ⟨U,S,as',e3,e4⟩
      ·exact ⟨ao,by rw [e3] at c;exact c,.inl rfl⟩
      ·exact ⟨ao,by rw [<-e3];exact Nd4 c,.inl rfl⟩
      ·exact ⟨_,c,.inr ⟨U,S,as',e3,e4⟩⟩
    | true=>
      have t:i.made=none:=by simp [AIns.made,hS]
      rw [t];rcases e3 with e3 | e3 | ⟨U,S,as',e3,e4⟩
      ·rw [e3,R] at hS;cases hS
      ·refine ⟨ao, ?_,.inl rfl⟩;have h2:=Nd4 c;rw [e3] at h2;generalize ab:i.op=io at hS e3;cases io<;>simp [YD] at hS;simp only [ZQ] at e3;subst e3;exact h2
      ·rw [e3] at hS;simp [YD] at hS
   have hd:∀d,i.made.map (base+·)=some d->∃r,i.made=some r/\d=base+r/\r∈todo/\r<n:=fun d e=>by
    simp only [Nd] at e;obtain ⟨r,hr,rfl⟩:=e;exact ⟨r,hr,rfl,A r hr⟩
   obtain ⟨Wm,L,M⟩:=Nmu (dest:=i.made.map (base+·)) hs.inv base i.mask (fun r hr b G D=>hk.own r (s r hr) b G D) J;refine Nd3 hC F q L (by rw [PG];exact hs.lim) (fun d e=>by obtain ⟨r,_,rfl,_⟩:=hd d e;omega)
    (fun d e=>by
     obtain ⟨r,_,rfl,h1,h2⟩:=hd d e;rw [PG];exact ⟨by have:=hk.len;omega,hk.free r h1⟩) (fun x k=>hs.fr.ev k) c fun v' w' u hn=>?_
   obtain ⟨q1,q2,q3,V,q5,q6,X⟩:=M _ _ _ _ _ hn;have y:∀j,u j≠σ j->(∃r,i.made=some r/\j=base+r)\/H.length<=j:=fun j B=>by
    rcases q5 j B with h | h
    ·obtain ⟨r,h1,h2,_⟩:=hd j h;exact .inl ⟨r,h1,h2⟩
    ·exact .inr h
   refine T u _ w' ⟨(hs.fr.mono V).put q1 I,q2,by have:=hs.lim;omega⟩ q3 V X ⟨by have:=hk.len;omega,fun r hr b G D=>?_,fun r hr=>?_,fun r hr=>hk.lt r (O0.1 hr).1⟩ y q6
   ·rcases X _ b G D with h | h
    ·exact hk.own r hr b h D
    ·exact h.1
   ·obtain ⟨h1,h2⟩:=O0.1 hr;have O:i.made≠some r:=by simpa using h2
    apply Oe;intro hc;have z:=y (base+r) (fun e=>hc (by rw [e];exact hk.free r h1));rcases z with ⟨r',h3,h4⟩ | h3
    ·have:r'=r:=by omega
     subst this;exact O h3
    ·have Z:=hk.lt r h1;have aa:=hk.len;omega
end
theorem Nag {α β:Type} {f:α->Option β}:∀{l:List α} {r:List β},l.mapM f=some r->r.length=l.length/\∀(j:Nat) x y,l[j]? = some x->r[j]? = some y->f x=some y
 | [],r,h=>by simp at h;subst h;exact ⟨rfl,fun j x y c=>by simp at c⟩
 | a::l,r,h=>by
   rw [List.mapM_cons] at h;obtain ⟨b,g,h⟩:=OM h;obtain ⟨r',d,h⟩:=OM h;cases h;obtain ⟨h1,h2⟩:=Nag d;refine ⟨by simp [h1],fun j x y c e=>?_⟩;cases j with
   | zero=>simp at c e;subst c e;exact g
   | succ j=>exact h2 j x y (by simpa using c) (by simpa using e)
section
variable {P:Program} {pf pureF:FuncId->Bool} {C:Ul} {W:Nat->Prop} {lim:Nat} {σ:PO} {H H':NA} {w:World} {ds:List Deferred} {ro:Option Nat}
variable {x:AIns} {n j r:Nat} {ops:Array Oper} {L l M:List AIns} {a:List (Option Nat)}
def N7l (Pp:Prg) (ds:List Deferred) (W:Nat->Prop) (lim:Nat) (σ:PO) (N:Nat) (fr':Nat->Value) (H H':NA) (w:World):Exit->Act->World->Prop:=fun e a' w'=>
 e=.normal/\∃a,State Pp ds W lim a N fr' H' a' w'/\Stp W w w'/\PO.le σ a/\Grow lim H H'/\(∀j,a j≠σ j->H.length<=j)/\H.length<=H'.length
theorem MH {ops:Array Oper} {listed:Array Bool} (b:∀(i:Nat) o,ops[i]? = some o->listed.getD i false=true->∀e∈o.after.toList,Region.binds .any e=true->listed.getD e.on false=true) :
  ∀(n x a:Nat),listed.getD x false=true->waits ops n x a=true->listed.getD a false=true
 | 0,x,a,_,h=>by simp [waits] at h
 | n+1,x,a,hx,h=>by
   unfold waits at h;split at h
   ·rename_i o ho;obtain ⟨e,he,h2⟩:=List.any_eq_true.1 h;simp only [N2,Bool.or_eq_true,beq_iff_eq] at h2;have c:=b x o ho hx e he h2.1;rcases h2.2 with h3 | h3
    ·rw [<-h3];exact c
    ·exact MH b n e.on a c h3
   ·cases h
theorem Nes {ops:Array Oper}:∀(l b:List Nat),Nsy ops b l=true->∀A i B,l=A++i::B->∀o,ops[i]? = some o->∀e∈o.after.toList,Region.binds .any e=true->e.on∈b++A
 | [],b,_,A,i,B,h=>by simp at h
 | x::l,b,hk,A,i,B,h=>by
   intro o ho e he c;simp only [Nsy,N2] at hk;cases A with
   | nil=>
     simp only [Og,List.cons.injEq] at h;obtain ⟨rfl,rfl⟩:=h;have h1:=hk.1;rw [ho] at h1;have:=N7.1 h1 e he;rw [c] at this;simpa using this
   | cons a A=>
     simp only [Ox,List.cons.injEq] at h;obtain ⟨rfl,h⟩:=h;have:=Nes l (b++[x]) hk.2 A i B h o ho e he c;simpa using this
theorem Nac {ops:Array Oper} {L:List AIns}:∀(l b:List Nat),Ndk ops L b l=true->∀A i B,l=A++i::B->∀j∈b++A,Np2 ops L i j=true
 | [],b,_,A,i,B,h=>by simp at h
 | x::l,b,hk,A,i,B,h=>by
   intro j c;simp only [Ndk,N2] at hk;cases A with
   | nil=>
     simp only [Og,List.cons.injEq] at h;obtain ⟨rfl,rfl⟩:=h;exact N7.1 hk.1 j (by simpa using c)
   | cons a A=>
     simp only [Ox,List.cons.injEq] at h;obtain ⟨rfl,h⟩:=h;exact Nac l (b++[x]) hk.2 A i B h j (by simpa using c)
theorem Nck:∀{l:List Nat},nodupB l=true->l.Nodup
 | [],_=>List.nodup_nil
 | x::l,h=>by
   simp only [nodupB,N2,Bool.not_eq_true',List.contains_eq_mem,decide_eq_false_iff_not] at h;exact List.nodup_cons.2 ⟨h.1,Nck h.2⟩
theorem Nca {ops:Array Oper} {ord:List Nat} (c:∀A i B,ord=A++i::B->∀o,ops[i]? = some o->∀e∈o.after.toList,Region.binds .any e=true->e.on∈A) :
  ∀(n x a:Nat),waits ops n x a=true->∀A B,ord=A++x::B->a∈A
 | 0,x,a,h=>by simp [waits] at h
 | n+1,x,a,h=>by
   intro A B b;unfold waits at h;split at h
   ·rename_i o ho;obtain ⟨e,he,h2⟩:=List.any_eq_true.1 h;simp only [N2,Bool.or_eq_true,beq_iff_eq] at h2;have hm:=c A x B b o ho e he h2.1;rcases h2.2 with h3 | h3
    ·rw [<-h3];exact hm
    ·obtain ⟨d,A2,rfl⟩:=List.append_of_mem hm;have:=Nca c n e.on a h3 d (A2++x::B) (by rw [b];simp);exact O9 _ this
   ·cases h
theorem Nbi {listed:Array Bool} {i:Nat}:i∈Region.ready .any ops listed↔i<ops.size/\listed.getD i true=false/\∀o,ops[i]? = some o->∀e∈o.after.toList,Region.binds .any e=true->listed.getD e.on false=true:=by
 unfold Region.ready;rw [O0];simp only [List.mem_range,N2,Bool.not_eq_true'];constructor
 ·rintro ⟨h1,h2,a⟩;refine ⟨h1,h2,fun o ho e he b=>?_⟩;rw [ho] at a;simp only [Ny,Pj] at a;rw [<-Array.all_toList] at a;have:=N7.1 a e he;simpa [b] using this
 ·rintro ⟨h1,h2,a⟩;refine ⟨h1,h2, ?_⟩;have ho:ops[i]? = some ops[i]:=Of h1;rw [ho];simp only [Ny,Pj];rw [<-Array.all_toList];refine N7.2 fun e he=>?_
  cases b:Region.binds .any e with
  | false=>simp
  | true=>simpa using a _ ho e he b
theorem MX:∀(l:List AOp) (n j:Nat),(QH.go n l).length=l.length/\(∀o r,l[j]? = some o->(QH.go n l)[j]? = some r->(makes o=true->∃k,r=some k/\n<=k/\k<n+((QH.go n l).filterMap id).length)/\(makes o=false->r=none))
 | [],n,j=>⟨rfl,fun o r h=>by simp at h⟩
 | o::l,n,j=>by
   unfold QH.go;cases hm:makes o with
   | true=>
     simp only [if_true];obtain ⟨h1,h2⟩:=MX l (n+1) (j-1);refine ⟨by simp [h1],fun c r ho hr=>?_⟩;cases j with
     | zero=>simp at ho hr;subst ho hr;exact ⟨fun _=>⟨n,rfl,Nf _,(by simp)⟩,(fun h=>by rw [hm] at h;cases h)⟩
     | succ j=>
       obtain ⟨a,b⟩:=h2 c r (by simpa using ho) (by simpa using hr);refine ⟨fun h=>?_,b⟩;obtain ⟨k,k1,k2,k3⟩:=a h;refine ⟨k,k1,by omega, ?_⟩;simp only [List.filterMap_cons,id,Nm];omega
   | false=>
     simp only [N3,if_false];obtain ⟨h1,h2⟩:=MX l n (j-1);refine ⟨by simp [h1],fun c r ho hr=>?_⟩;cases j with
     | zero=>simp at ho hr;subst ho hr;exact ⟨(fun h=>by rw [hm] at h;cases h),fun _=>rfl⟩
     | succ j=>
       obtain ⟨a,b⟩:=h2 c r (by simpa using ho) (by simpa using hr);refine ⟨fun h=>?_,b⟩;obtain ⟨k,k1,k2,k3⟩:=a h;exact ⟨k,k1,k2,by simpa using k3⟩
theorem Xt:∀(l:List AOp) (n i j k:Nat),(QH.go n l)[i]? = some (some k)->(QH.go n l)[j]? = some (some k)->i=j/\n<=k
 | [],n,i,j,k,h,_=>by simp [QH.go] at h
 | o::l,n,i,j,k,hi,hj=>by
   unfold QH.go at hi hj;cases hm:makes o with
   | true=>
     rw [hm] at hi hj;simp only [if_true] at hi hj;cases i with
     | zero=>
       cases j with
       | zero=>simp at hi;exact ⟨rfl,by omega⟩
       | succ j=>
         simp at hi hj;have:=(Xt l (n+1) j j k hj hj).2;omega
     | succ i=>
       cases j with
       | zero=>
         simp at hi hj;have:=(Xt l (n+1) i i k hi hi).2;omega
       | succ j=>
         simp at hi hj;have:=Xt l (n+1) i j k hi hj;omega
   | false=>
     rw [hm] at hi hj;simp only [N3,if_false] at hi hj;cases i with
     | zero=>simp at hi
     | succ i=>
       cases j with
       | zero=>simp at hj
       | succ j=>
         simp at hi hj;have:=Xt l n i j k hi hj;omega
structure Plan (P:Program) (pureF:FuncId->Bool) (ops:Array Oper) (n:Nat) (ord:List Nat) (L:List AIns):Prop where
 len:L.length=ops.size
 mem:∀i,i∈ord↔i<ops.size
 nodup:ord.Nodup
 back:∀A i B,ord=A++i::B->∀o,ops[i]? = some o->∀e∈o.after.toList,Region.binds .any e=true->e.on∈A
 ins:∀(j:Nat) o i,ops[j]? = some o->L[j]? = some i->∃i0,Nsm P pureF true ops o=some i0/\i.dst=i0.dst/\i.guard=i0.guard/\(i.op=i0.op\/ZQ i.op=i0.op\/∃m f as,i.op=.call m f as/\i0.op=.call .any f as)/\YD i0.op=false
 planned:∀(j:Nat) i,L[j]? = some i->Planned i
 sep:∀A i B,ord=A++i::B->∀j∈A,∀x y,L[j]? = some x->L[i]? = some y->waits ops ops.size i j=false->Sep x y
 dest:∀(j:Nat) i r,L[j]? = some i->i.dest=some r->r<n
 mask:∀(j:Nat) i r,L[j]? = some i->r∈i.mask->r<n
 inj:∀(i j:Nat) x y r,L[i]? = some x->L[j]? = some y->x.made=some r->y.made=some r->i=j
theorem Nyg (i:AIns):(toL i).dst=i.dst/\(toL i).guard=i.guard/\((toL i).op=i.op\/ZQ (toL i).op=i.op/\∃e b s x y,i.op=.append e b s x y/\∀f as,(toL i).op≠.call .any f as):=by
 unfold toL;split
 ·rename_i h;exact ⟨rfl,rfl,.inr ⟨by rw [h];rfl,_,_,_,_,_,h,fun f as e=>by cases e⟩⟩
 ·exact ⟨rfl,rfl,.inl rfl⟩
theorem Nrc (a:List AIns) (x:AIns):(fresh a x).dst=x.dst/\(fresh a x).guard=x.guard/\((fresh a x).op=x.op\/ZQ (fresh a x).op=x.op/\∃e b s y z,(fresh a x).op=.append0 e b s y z):=by
 unfold fresh;split
 ·rename_i c;split
  ·exact ⟨rfl,rfl,.inr ⟨by simp only [c,ZQ],_,_,_,_,_,rfl⟩⟩
  ·exact ⟨rfl,rfl,.inl rfl⟩
 ·exact ⟨rfl,rfl,.inl rfl⟩
theorem Npx (st:Bool) (c:List AIns) (x:AIns):(YQ st c x).dst=x.dst/\(YQ st c x).guard=x.guard/\((YQ st c x).op=x.op\/ZQ (YQ st c x).op=x.op/\((∃e b s y z,(YQ st c x).op=.append0 e b s y z)\/∃n a z,(YQ st c x).op=.storeD n a z)):=by
 obtain ⟨f1,f2,f3⟩:=Nrc c x;unfold YQ;split
 ·unfold toS;split
  ·rename_i n t z d;split
   ·refine ⟨f1,f2,.inr ⟨?_,.inr ⟨_,_,_,rfl⟩⟩⟩;rcases f3 with f3 | ⟨_,_,_,_,_,_,f4⟩
    ·rw [<-f3,d];rfl
    ·rw [d] at f4;cases f4
   ·exact ⟨f1,f2,f3.imp id fun h=>⟨h.1,.inl h.2⟩⟩
  ·exact ⟨f1,f2,f3.imp id fun h=>⟨h.1,.inl h.2⟩⟩
 ·exact ⟨f1,f2,f3.imp id fun h=>⟨h.1,.inl h.2⟩⟩
theorem Vk (l:List AIns) (a:List (Option Nat)) (i:AIns):(Ned l a i).dst=i.dst/\(Ned l a i).guard=i.guard/\(Ned l a i).op=i.op/\(Ned l a i).mask=i.mask:=by
 unfold Ned;split<;>exact ⟨rfl,rfl,rfl,rfl⟩
theorem XT {i:AIns} (h:YD i.op=false):Ned l a i=i:=by
 unfold Ned;rw [h];rfl
theorem Z5 (h:Oca ops L=true) {i:Nat} {y:AIns} (c:L[i]? = some x) (d:L[j]? = some y) (b:i≠j) (w1:waits ops ops.size i j=false) (w2:waits ops ops.size j i=false) (hs:YD x.op=true) (hr:x.dest=some r) :
  y.dest≠some r/\(r∈y.mask\/kind y.op=.p\/kind y.op=.a\/kind y.op=.s):=by
 have hi:=(List.getElem?_eq_some_iff.1 c).1;have f:=(List.getElem?_eq_some_iff.1 d).1;have:=N7.1 h i (List.mem_range.2 hi);rw [c] at this;simp only [hs,Qn,Bool.false_or] at this;replace this:=N7.1 this j (List.mem_range.2 f);rw [d,w1,w2] at this;simp only [hr] at this;have e:(i == j)=false:=by simpa using b
 rw [e] at this;simp at this;obtain ⟨h1,h2⟩:=this;refine ⟨h1, ?_⟩;rcases h2 with ((h2 | h2) | h2) | h2
 ·exact .inl h2
 ·exact .inr (.inl h2)
 ·exact .inr (.inr (.inl h2))
 ·exact .inr (.inr (.inr h2))
theorem Ncw (h:N12 L n=true) (a:L[j]? = some x) (hs:YD x.op=true):∃r,x.dest=some r/\r<n:=by
 have:=N7.1 h x (Oh a);rw [hs] at this;simp only [Qn,Bool.false_or] at this;split at this
 ·rename_i r hr;exact ⟨r,hr,by simpa using this⟩
 ·cases this
theorem Nt1 (i:AIns):(No7 P i).dst=i.dst/\(No7 P i).guard=i.guard/\((No7 P i).op=i.op\/∃m f as,(No7 P i).op=.call m f as/\i.op=.call .any f as):=by
 unfold No7;split
 ·rename_i h;split
  ·exact ⟨rfl,rfl,.inr ⟨_,_,_,rfl,h⟩⟩
  ·exact ⟨rfl,rfl,.inr ⟨_,_,_,rfl,h⟩⟩
 ·rename_i h;exact ⟨rfl,rfl,.inr ⟨_,_,_,rfl,h⟩⟩
 ·exact ⟨rfl,rfl,.inl rfl⟩
theorem Nt0 {k:Nat} (i:AIns):(Nlf ops l k i).dst=i.dst/\(Nlf ops l k i).guard=i.guard/\((Nlf ops l k i).op=i.op\/(ZQ (Nlf ops l k i).op=i.op/\ZQ i.op=i.op)\/∃m f as,(Nlf ops l k i).op=.call m f as/\i.op=.call .any f as):=by
 unfold Nlf;split
 ·rename_i h;split
  ·exact ⟨rfl,rfl,.inr (.inr ⟨_,_,_,rfl,h⟩)⟩
  ·exact ⟨rfl,rfl,.inl rfl⟩
 ·rename_i h;split
  ·exact ⟨rfl,rfl,.inr (.inl ⟨by rw [h];rfl,by rw [h];rfl⟩)⟩
  ·split
   ·exact ⟨rfl,rfl,.inr (.inl ⟨by rw [h];rfl,by rw [h];rfl⟩)⟩
   ·exact ⟨rfl,rfl,.inl rfl⟩
 ·rename_i h;split
  ·exact ⟨rfl,rfl,.inr (.inl ⟨by rw [h];rfl,by rw [h];rfl⟩)⟩
  ·split
   ·exact ⟨rfl,rfl,.inr (.inl ⟨by rw [h];rfl,by rw [h];rfl⟩)⟩
   ·exact ⟨rfl,rfl,.inl rfl⟩
 ·rename_i h;split
  ·split
   ·exact ⟨rfl,rfl,.inr (.inl ⟨by rw [h];rfl,by rw [h];rfl⟩)⟩
   ·exact ⟨rfl,rfl,.inl rfl⟩
  ·exact ⟨rfl,rfl,.inl rfl⟩
 ·exact ⟨rfl,rfl,.inl rfl⟩
theorem Nc0 {st:Bool} (h:Xn P pureF st ops=some (.drawn n M)):∃ord L,Plan P pureF ops n ord L/\M=ord.map fun j=>L.getD j default:=by
 unfold Xn at h;obtain ⟨W,a5,h⟩:=OM h;simp only at h;generalize hk:late ops (W.map (YQ st W))=k at h;generalize aj:((W.map (YQ st W)).zipIdx.map fun (i,j)=>if k=some j then toL i else i)=l2 at h;generalize al:(l2.zipIdx.map fun (i,j)=>if Nl1 l2 then Nlf ops l2 j i else if MC ops l2 j then No7 P i else i)=l at h;generalize bd:N7u ops l.length (mks l) k=ord at h;split at h
 case isFalse=>cases h
 rename_i hc;simp only [N2] at hc;obtain ⟨⟨⟨⟨⟨H,ah⟩,T⟩,am⟩,u⟩,C⟩:=hc;simp only [pure,Option.some.injEq,ACode.drawn.injEq] at h;obtain ⟨hn,hM⟩:=h;generalize hL:(l.zipIdx.map fun (p:AIns×Nat)=>Ned l (QH (l.map fun x=>x.op)) (Rt ops (QH (l.map fun x=>x.op)) p.2 p.1))=L at hM u C;refine ⟨ord,L, ?_,hM.symm⟩;obtain ⟨ag,ab⟩:=Nag a5;have ak:l.length=ops.toList.length:=by rw [<-al,Nz,List.length_zipIdx,<-aj,Nz,List.length_zipIdx,Nz];exact ag
 have S:∀(j:Nat) z,l2[j]? = some z->∃d,W[j]? = some d/\z.dst=d.dst/\z.guard=d.guard/\(z.op=d.op\/(ZQ z.op=d.op/\∀f as,z.op≠.call .any f as)):=fun j z K=>by
  rw [<-aj,Pk,List.getElem?_zipIdx,Pk] at K;simp only [Nd] at K;obtain ⟨p,⟨q,⟨d,h0,rfl⟩,rfl⟩,rfl⟩:=K;refine ⟨d,h0, ?_⟩;obtain ⟨f1,f2,f3⟩:=Npx st W d;simp only;split
  ·obtain ⟨t1,t2,g⟩:=Nyg (YQ st W d);refine ⟨t1.trans f1,t2.trans f2, ?_⟩;rcases g with g | ⟨g,_,_,_,_,_,N,t5⟩
   ·rcases f3 with f3 | ⟨f3,⟨_,_,_,_,_,f4⟩ | ⟨_,_,_,f4⟩⟩
    ·exact .inl (g.trans f3)
    ·exact .inr ⟨by rw [g];exact f3,by rw [g,f4];intro _ _ h;cases h⟩
    ·exact .inr ⟨by rw [g];exact f3,by rw [g,f4];intro _ _ h;cases h⟩
   ·rcases f3 with f3 | ⟨f3,⟨_,_,_,_,_,f4⟩ | ⟨_,_,_,f4⟩⟩
    ·exact .inr ⟨g.trans f3,t5⟩
    ·rw [N] at f4;cases f4
    ·rw [N] at f4;cases f4
  ·refine ⟨f1,f2, ?_⟩;rcases f3 with f3 | ⟨f3,⟨_,_,_,_,_,f4⟩ | ⟨_,_,_,f4⟩⟩
   ·exact .inl f3
   ·exact .inr ⟨f3,by rw [f4];intro _ _ h;cases h⟩
   ·exact .inr ⟨f3,by rw [f4];intro _ _ h;cases h⟩
 have aa:∀(j:Nat) z,l[j]? = some z->∃d,W[j]? = some d/\z.dst=d.dst/\z.guard=d.guard/\(z.op=d.op\/ZQ z.op=d.op\/∃m f as,z.op=.call m f as/\d.op=.call .any f as):=fun j z K=>by
  rw [<-al,Pk,List.getElem?_zipIdx] at K;simp only [Nd] at K;obtain ⟨p,⟨q,hq,rfl⟩,rfl⟩:=K;obtain ⟨d,h0,f1,f2,f3⟩:=S j q hq;refine ⟨d,h0, ?_⟩;simp only;split
  ·obtain ⟨t1,t2,g⟩:=Nt0 (ops:=ops) (l:=l2) (k:=0+j) q;refine ⟨t1.trans f1,t2.trans f2, ?_⟩;rcases g with g | ⟨g,N⟩ | ⟨m,f,as,g,N⟩
   ·rcases f3 with f3 | f3
    ·exact .inl (g.trans f3)
    ·exact .inr (.inl (by rw [g];exact f3.1))
   ·rcases f3 with f3 | f3
    ·exact .inr (.inl (g.trans f3))
    ·exact .inr (.inl (g.trans (N.symm.trans f3.1)))
   ·rcases f3 with f3 | f3
    ·exact .inr (.inr ⟨m,f,as,g,f3.symm.trans N⟩)
    ·exact absurd N (f3.2 f as)
  split
  ·obtain ⟨t1,t2,g⟩:=Nt1 (P:=P) q;refine ⟨t1.trans f1,t2.trans f2, ?_⟩;rcases g with g | ⟨m,f,as,g,N⟩
   ·rcases f3 with f3 | f3
    ·exact .inl (g.trans f3)
    ·exact .inr (.inl (by rw [g];exact f3.1))
   ·rcases f3 with f3 | f3
    ·exact .inr (.inr ⟨m,f,as,g,f3.symm.trans N⟩)
    ·exact absurd N (f3.2 f as)
  ·exact ⟨f1,f2,f3.imp id fun h=>.inl h.1⟩
 have bb:(QH (l.map (·.op))).length=l.length:=by unfold QH;rw [(MX _ 0 0).1];simp
 have get:∀(j:Nat) i,L[j]? = some i->∃i0,l[j]? = some i0/\i=Ned l (QH (l.map (·.op))) (Rt ops (QH (l.map (·.op))) j i0):=fun j i hi=>by
  rw [<-hL,Pk,List.getElem?_zipIdx] at hi;simp only [Nd] at hi;obtain ⟨p,hp,rfl⟩:=hi;obtain ⟨i0,h1,rfl⟩:=hp;exact ⟨i0,h1,by simp⟩
 have rk:∀(j:Nat) i0,l[j]? = some i0->∃r,(QH (l.map (·.op)))[j]? = some r/\(makes i0.op=true->∃k,r=some k/\k<n)/\(makes i0.op=false->r=none):=fun j i0 ai=>by
  have hj:j<l.length:=(List.getElem?_eq_some_iff.1 ai).1;have hr:(QH (l.map (·.op)))[j]? = some ((QH (l.map (·.op)))[j]'(by omega)):=Ni _;refine ⟨_,hr, ?_⟩;have:=(MX (l.map (·.op)) 0 j).2 i0.op _ (by simp [ai]) (show (QH.go 0 (l.map (·.op)))[j]? = _ from hr);refine ⟨fun hm=>?_,this.2⟩;obtain ⟨k,k1,k2,k3⟩:=this.1 hm;exact ⟨k,k1,by rw [<-hn];simpa [QH] using k3⟩
 have getD:∀(j:Nat) r,(QH (l.map (·.op)))[j]? = some r->(QH (l.map (·.op))).getD j none=r:=fun j r h=>by
  rw [Nb,h];rfl
 have lt:∀(j k:Nat),(QH (l.map (·.op))).getD j none=some k->k<n:=fun j k h=>by
  by_cases hj:j<l.length
  ·obtain ⟨r,r1,r2,r3⟩:=rk j _ (Ni hj);rw [getD j r r1] at h;subst h;cases hm:makes l[j].op with
   | true=>obtain ⟨k',k1,k2⟩:=r2 hm;simp at k1;omega
   | false=>have:=r3 hm;cases this
  ·rw [Nb,N0 (by omega)] at h;cases h
 have v:=fun A i B h=>Nes (ops:=ops) ord [] ah A i B h
 simp only [Og] at v;simp only [Ny8,N2] at H;obtain ⟨⟨a8,a9⟩,ba⟩:=H;have G:=Nck ba;refine ⟨by rw [<-hL];simp [ak],fun i=>⟨fun hi=>by simpa using N7.1 a8 i hi,fun hi=>by simpa using N7.1 a9 i (by simpa using hi)⟩,G,v,fun j o i ho hi=>?_,fun j i hi=>?_,fun A i B R j ae x y hx hy w1=>?_,fun j i r hi hr=>?_,fun j i r hi hr=>?_,fun i j x y r hx hy h1 h2=>?_⟩
 ·obtain ⟨i0,h1,rfl⟩:=get j i hi;obtain ⟨z,K,f1,f2,f3⟩:=aa j i0 h1;obtain ⟨O,Q,g3,_⟩:=Vk l (QH (l.map (·.op))) (Rt ops (QH (l.map (·.op))) j i0);refine ⟨z,ab j o z (by simpa using ho) K,by rw [O];exact f1,by rw [Q];exact f2,by rw [g3];exact f3, ?_⟩;have:=N7.1 am z (Oh K);simpa using this
 ·have ad:=hi;obtain ⟨i0,h1,rfl⟩:=get j i hi;obtain ⟨r,r1,r2,r3⟩:=rk j i0 h1;obtain ⟨O,Q,g3,g4⟩:=Vk l (QH (l.map (·.op))) (Rt ops (QH (l.map (·.op))) j i0);refine ⟨fun hk=>?_,fun hm=>?_,fun hm=>(Ncw C ad hm).imp fun _ h=>h.1⟩
  ·rw [g3] at hk;rw [g4];have:¬(kind i0.op=.r\/kind i0.op=.w\/kind i0.op=.n\/kind i0.op=.c):=by
    have a3:kind i0.op=.p\/kind i0.op=.a\/kind i0.op=.s:=hk;rcases a3 with h | h | h<;>rw [h]<;>simp
   simp only [Rt,Ng this]
  ·rw [g3] at hm;obtain ⟨k,k1,k2⟩:=r2 hm;have a7:YD i0.op=false:=by
    cases h:YD i0.op with
    | false=>rfl
    | true=>have:=(N1v h).2;rw [show makes i0.op=true from hm] at this;cases this
   rw [XT (i:=Rt ops (QH (l.map (·.op))) j i0) a7];exact ⟨k,by simp only [Rt];rw [getD j r r1,k1]⟩
 ·have U:=hx;have V:=hy;obtain ⟨X,I,rfl⟩:=get j x hx;obtain ⟨Y,J,rfl⟩:=get i y hy;obtain ⟨aq,ar,E,au⟩:=Vk l (QH (l.map (·.op))) (Rt ops (QH (l.map (·.op))) j X);obtain ⟨av,aw,F,ax⟩:=Vk l (QH (l.map (·.op))) (Rt ops (QH (l.map (·.op))) i Y);have t:=Nac (ops:=ops) (L:=l) ord [] T A i B R j (by simpa using ae);unfold Np2 at t;rw [w1,I,J] at t;simp only [Bool.false_or,N2] at t;have D:j≠i:=fun e=>by
   subst e;rw [R] at G;exact (Qp.1 G).2.2 j ae j Nu rfl
  have w2:waits ops ops.size j i=false:=by
   cases hw:waits ops ops.size j i with
   | false=>rfl
   | true=>
     exfalso;obtain ⟨A1,A2,rfl⟩:=List.append_of_mem ae;have:=Nca v _ _ _ hw A1 (A2++i::B) (by rw [R];simp);rw [R] at G;exact (Qp.1 G).2.2 i (O9 _ this) i Nu rfl
  have hm:∀{a b:Nat} {a0:AIns} {r:Nat},l[a]? = some a0->a≠b->waits ops ops.size b a=false->(QH (l.map (·.op))).getD a none=some r->r∈(List.range (QH (l.map (·.op))).length).filterMap fun c=>if c≠b/\!waits ops ops.size b c then (QH (l.map (·.op))).getD c none else none:=fun {a b a0 r} ha ay hw hr=>by
   have az:a<(QH (l.map (·.op))).length:=by
    rw [bb];exact (List.getElem?_eq_some_iff.1 ha).1
   exact List.mem_filterMap.2 ⟨a,List.mem_range.2 az,by rw [Nl ⟨ay,by simpa using hw⟩];exact hr⟩
  have apart:∀{a b a' b':AIns},a.dst=a'.dst->a.guard=a'.guard->a.op=a'.op->b.dst=b'.dst->b.guard=b'.guard->b.op=b'.op->Nb6 a' b'=true->Nb6 a b=true:=fun {a b a' b'} e1 e2 e3 e4 e5 e6 h=>by
   unfold Nb6 AIns.looks at h⊢;rw [e1,e2,e3,e4,e5,e6];exact h
  have an:∀{k:Kind},k=.r\/k=.w\/k=.n\/k=.c->k=.p\/k=.a\/k=.s->False:=fun h h'=>by
   rcases h with h | h | h | h<;>rw [h] at h'<;>simp at h'
  refine ⟨apart aq ar E av aw F t.1,by rw [E,F];exact t.2,fun hk r hr=>?_,fun hk r hr=>?_,fun r h1 h2=>?_⟩
  ·cases hS:YD X.op with
   | true=>
     rcases (Z5 u U V D w2 w1 (by rw [E];exact hS) hr).2 with h | h
     ·exact h
     ·exact (an hk h).elim
   | false=>
     rw [XT (i:=Rt ops (QH (l.map (·.op))) j X) hS] at hr;rw [F] at hk;rw [ax];simp only [Rt] at hr hk⊢;rw [Nl hk];exact hm I D w1 hr
  ·cases hS:YD Y.op with
   | true=>
     rcases (Z5 u V U (Ne.symm D) w1 w2 (by rw [F];exact hS) hr).2 with h | h
     ·exact h
     ·exact (an hk h).elim
   | false=>
     rw [XT (i:=Rt ops (QH (l.map (·.op))) i Y) hS] at hr;rw [E] at hk;rw [au];simp only [Rt] at hr hk⊢;rw [Nl hk];exact hm J (Ne.symm D) w2 hr
  ·cases hSx:YD X.op with
   | true=>exact (Z5 u U V D w2 w1 (by rw [E];exact hSx) h1).1 h2
   | false=>
     cases hSy:YD Y.op with
     | true=>exact (Z5 u V U (Ne.symm D) w1 w2 (by rw [F];exact hSy) h2).1 h1
     | false=>
       rw [XT (i:=Rt ops (QH (l.map (·.op))) j X) hSx] at h1;rw [XT (i:=Rt ops (QH (l.map (·.op))) i Y) hSy] at h2;simp only [Rt] at h1 h2;obtain ⟨r1,O,_⟩:=rk j X I;obtain ⟨r2,Q,_⟩:=rk i Y J;rw [getD j r1 O] at h1;rw [getD i r2 Q] at h2;subst h1 h2;exact D (Xt (l.map (·.op)) 0 j i r (by simpa [QH] using O) (by simpa [QH] using Q)).1
 ·have ad:=hi;obtain ⟨i0,h1,rfl⟩:=get j i hi;obtain ⟨O,Q,g3,g4⟩:=Vk l (QH (l.map (·.op))) (Rt ops (QH (l.map (·.op))) j i0);cases hS:YD i0.op with
  | true=>
    obtain ⟨r',e,a6⟩:=Ncw C ad (by rw [g3];exact hS);rw [e] at hr;cases hr;rw [<-hn];exact a6
  | false=>
    rw [XT (i:=Rt ops (QH (l.map (·.op))) j i0) hS] at hr;exact lt j r hr
 ·obtain ⟨i0,h1,rfl⟩:=get j i hi;rw [(Vk l (QH (l.map (·.op))) (Rt ops (QH (l.map (·.op))) j i0)).2.2.2] at hr;simp only [Rt] at hr;split at hr
  ·obtain ⟨c,be,Z⟩:=List.mem_filterMap.1 hr;split at Z
   ·exact lt c r Z
   ·cases Z
  ·simp at hr
 ·obtain ⟨X,I,rfl⟩:=get i x hx;obtain ⟨Y,J,rfl⟩:=get j y hy;have made:∀{d:AIns} {k:Nat},(Ned l (QH (l.map (·.op))) (Rt ops (QH (l.map (·.op))) k d)).made=some r->(Rt ops (QH (l.map (·.op))) k d).dest=some r:=fun {d k} h=>by
   unfold AIns.made at h;rw [(Vk l (QH (l.map (·.op))) (Rt ops (QH (l.map (·.op))) k d)).2.2.1] at h;cases hS:YD d.op with
   | true=>rw [show YD (Rt ops (QH (l.map (·.op))) k d).op=true from hS] at h;cases h
   | false=>
     rw [show YD (Rt ops (QH (l.map (·.op))) k d).op=false from hS] at h;rw [XT (i:=Rt ops (QH (l.map (·.op))) k d) hS] at h;exact h
  replace h1:=made h1;replace h2:=made h2;simp only [Rt] at h1 h2;obtain ⟨r1,O,_⟩:=rk i X I;obtain ⟨r2,Q,_⟩:=rk j Y J;rw [getD i r1 O] at h1;rw [getD j r2 Q] at h2;subst h1 h2;exact (Xt (l.map (·.op)) 0 i j r (by simpa [QH] using O) (by simpa [QH] using Q)).1
theorem Nrr (h:VS P pureF ops=some (.drawn n M)):∃ord L,Plan P pureF ops n ord L/\M=ord.map fun j=>L.getD j default:=by
 unfold VS at h;split at h
 ·rename_i c hc;cases h;exact Nc0 hc
 ·exact Nc0 h
theorem Nbo {i:AIns} (h:i.made=some r):i.dest=some r:=by
 unfold AIns.made at h;split at h
 ·cases h
 ·exact h
end
section
variable {P:Program} {pf pureF:FuncId->Bool} {C:Ul} {ds:List Deferred} {ro:Option Nat}
structure Todo (ops:Array Oper) (ord:List Nat) (listed:Array Bool) (τ:List Nat):Prop where
 mem:∀i,i∈τ↔i<ops.size/\listed.getD i true=false
 sub:τ.Sublist ord
 size:listed.size=ops.size
 closed:∀(i:Nat) o,ops[i]? = some o->listed.getD i false=true->∀e∈o.after.toList,Region.binds .any e=true->listed.getD e.on false=true
theorem getD_both {listed:Array Bool} {i n:Nat} (hs:listed.size=n) (hi:i<n):listed.getD i false=listed.getD i true:=by
 rw [N8,N8,Of (by omega)];rfl
theorem Niv (hC:CallOk (Prg.mk P pf) C) {ops:Array Oper} {n:Nat} {ord:List Nat} {L:List AIns} (pl:Plan P pureF ops n ord L) {N base:Nat} {Q:Exit->Act->World->Prop} (fr':Nat->Value) (H':NA) (W:Nat->Prop) (lim:Nat) (U:lim<=base) (M:PO) (H0:NA) (w0:World)
  (hQ:∀a w σ,State (Prg.mk P pf) ds W lim σ N fr' H' a w->Stp W w0 w->PO.le M σ->Grow lim H0 H'->(∀j,σ j≠M j->base<=j)->H0.length<=H'.length->Q .normal a w) :
  ∀(fuel:Nat) (listed:Array Bool) (τ:List Nat) (fr:Nat->Value) (H:NA) (a:Act) (w:World) (σ:PO),τ.length=fuel->Todo ops ord listed τ->State (Prg.mk P pf) ds W lim σ N fr H a w->Stp W w0 w->PO.le M σ->Grow lim H0 H->(∀j,σ j≠M j->base<=j)->H0.length<=H.length->
   Kept σ H base n (τ.filterMap fun i=>(L.getD i default).made)->Zk C N lim (some base) (τ.map fun i=>L.getD i default) fr H=some (fr',H')->wpAnyIn (WF ro) 0 P .any ops Q fuel listed a w
 | 0,listed,τ,fr,H,a,w,σ,hf,ht,hst,h1,h2,h3,O,h5,hk,K=>by
   have hτ:τ=[]:=List.length_eq_zero_iff.1 hf;subst hτ;simp [Zk] at K;obtain ⟨rfl,rfl⟩:=K;refine ⟨?_,hQ a w σ hst h1 h2 h3 O h5⟩;rw [List.eq_nil_iff_forall_not_mem];intro i hi;have:=Nbi.1 hi;have:=(ht.mem i).2 ⟨this.1,this.2.1⟩;cases this
 | fuel+1,listed,τ,fr,H,a,w,σ,hf,ht,hst,h1,h2,h3,O,h5,hk,K=>by
   refine ⟨fun hr=>?_,fun i hi=>?_⟩
   ·
    exfalso;cases τ with
    | nil=>simp at hf
    | cons t τ=>
      have Z:=(ht.mem t).1 Nu;have:t∈Region.ready .any ops listed:=Nbi.2 ⟨Z.1,Z.2,fun o ho e he g=>by
       cases hc:listed.getD e.on true with
       | true=>rw [getD_both ht.size ((pl.mem _).1 (by
         obtain ⟨E,r2,c,h1,h2⟩:=List.cons_sublist_iff.1 ht.sub;obtain ⟨u,v,rfl⟩:=List.append_of_mem h1;have:=pl.back u t (v++r2) (by rw [c];simp) o ho e he g;rw [c];simp [this]))];exact hc
       | false=>
         exfalso;obtain ⟨E,r2,c,h1,h2⟩:=List.cons_sublist_iff.1 ht.sub;obtain ⟨u,v,rfl⟩:=List.append_of_mem h1;have hu:=pl.back u t (v++r2) (by rw [c];simp) o ho e he g;have ab:e.on<ops.size:=(pl.mem _).1 (by rw [c];simp [hu]);have V:=pl.nodup;rw [c,No] at V;have hd:=(Qp.1 V).2.2 e.on hu;have hm:=(ht.mem e.on).2 ⟨ab,hc⟩;rcases Ns.1 hm with h | h
         ·exact hd t (by simp) h
         ·exact hd e.on (by simp [h2.subset h]) rfl⟩
      rw [hr] at this;cases this
   ·obtain ⟨E,r2,r3⟩:=Nbi.1 hi;have T:=(ht.mem i).2 ⟨E,r2⟩;obtain ⟨A,B,rfl⟩:=List.append_of_mem T;have ad:i<L.length:=by rw [pl.len];exact E
    have k:L[i]? = some (L.getD i default):=by rw [Nb,Ni ad];rfl
    have D:∃A1 B1,ord=A1++i::B1/\A.Sublist A1:=by
     obtain ⟨E,r2,h1,h2,h3⟩:=List.append_sublist_iff.1 ht.sub;obtain ⟨s1,s2,O,h5,h6⟩:=List.cons_sublist_iff.1 h3;obtain ⟨u,v,rfl⟩:=List.append_of_mem h5;exact ⟨E++u,v++s2,by rw [h1,O];simp,h2.trans (List.sublist_append_left _ _)⟩
    obtain ⟨A1,B1,X,aa⟩:=D;have F:(A++i::B).Nodup:=ht.sub.nodup pl.nodup;have hA:∀b∈A,Planned (L.getD b default)/\Sep (L.getD b default) (L.getD i default):=fun b g=>by
     have d:=(ht.mem b).1 (O9 _ g);have l:b<L.length:=by rw [pl.len];exact d.1
     have f:L[b]? = some (L.getD b default):=by rw [Nb,Ni l];rfl
     refine ⟨pl.planned b _ f,pl.sep A1 i B1 X b (aa.subset g) _ _ f k ?_⟩;cases hw:waits ops ops.size i b with
     | false=>rfl
     | true=>
       exfalso;have key:∀m,waits ops m i b=true->listed.getD b false=true:=by
        intro m hm;cases m with
        | zero=>simp [waits] at hm
        | succ m=>
          unfold waits at hm;split at hm
          ·rename_i o ho;obtain ⟨e,he,h2⟩:=List.any_eq_true.1 hm;simp only [N2,Bool.or_eq_true,beq_iff_eq] at h2;have S:=r3 o ho e he h2.1;rcases h2.2 with h3 | h3
           ·rw [<-h3];exact S
           ·exact MH ht.closed m e.on b S h3
          ·cases hm
       have:=key _ hw;rw [getD_both ht.size d.1,d.2] at this;cases this
    have R:=N27 (N:=N) (lim:=lim) (base:=base) hC.toCallOk0 (pl.planned i _ k) (B.map fun i=>L.getD i default) (A.map fun i=>L.getD i default) fr H _ hst.lim (fun r hr=>by have:=pl.dest i _ r k hr;have:=hk.len;omega) (fun x K=>by
     obtain ⟨b,g,rfl⟩:=List.mem_map.1 K;refine ⟨hA b g,fun r hr=>?_⟩;have d:=(ht.mem b).1 (O9 _ g);have l:b<L.length:=by rw [pl.len];exact d.1
     have f:L[b]? = some (L.getD b default):=by rw [Nb,Ni l];rfl
     have:=pl.dest b _ r f hr;have:=hk.len;omega) (by simpa using K)
    obtain ⟨fr1,H1,aj,ak⟩:=XD R;have G:ops[i]? = some ops[i]:=Of E;obtain ⟨i0,ai,e1,e2,e3,e4⟩:=pl.ins i _ _ G k;refine N61 hC G ai ⟨e1,e2,e3⟩ e4 hst U hk (fun r hr=>⟨List.mem_filterMap.2 ⟨i,T,hr⟩,pl.dest i _ r k (Nbo hr)⟩) (fun r hr=>pl.mask i _ r k hr) aj fun σ' a' w' q1 q2 q3 q4 q5 q6 q7=>?_
    have s:i∉A:=fun h=>(Qp.1 F).2.2 i h i Nu rfl
    have y:i∉B:=(List.nodup_cons.1 (Qp.1 F).2.1).1;have Y:∀j,(listed.setIfInBounds i true).getD j true=if j=i then true else listed.getD j true:=fun j=>by
     rw [N8,N8];by_cases p:j=i
     ·subst p;rw [Nl rfl,Array.getElem?_setIfInBounds_self_of_lt (by rw [ht.size];exact E)];rfl
     ·rw [Ng p,Pz (fun h=>p h.symm)]
    have I:∀j,(listed.setIfInBounds i true).getD j false=if j=i then true else listed.getD j false:=fun j=>by
     rw [N8,N8];by_cases p:j=i
     ·subst p;rw [Nl rfl,Array.getElem?_setIfInBounds_self_of_lt (by rw [ht.size];exact E)];rfl
     ·rw [Ng p,Pz (fun h=>p h.symm)]
    have ah:Todo ops ord (listed.setIfInBounds i true) (A++B):=by
     refine ⟨fun j=>?_, ?_,by simpa using ht.size,fun j o ho hl e he g=>?_⟩
     ·have hm:=ht.mem j;rw [Y];constructor
      ·intro p;have ag:j∈A++i::B:=by
        rcases Ok.1 p with h | h
        ·exact O9 _ h
        ·exact Qh _ (Nr _ h)
       obtain ⟨g1,J⟩:=hm.1 ag;have q:j≠i:=fun e=>by
        subst e;rcases Ok.1 p with h | h
        ·exact s h
        ·exact y h
       exact ⟨g1,by rw [Ng q];exact J⟩
      ·rintro ⟨g1,J⟩;by_cases q:j=i
       ·rw [Nl q] at J;cases J
       ·rw [Ng q] at J;have:=hm.2 ⟨g1,J⟩;rcases Ok.1 this with h | h
        ·exact O9 _ h
        ·rcases Ns.1 h with h | h
         ·exact absurd h q
         ·exact Qh _ h
     ·exact (List.Sublist.append_left (List.sublist_cons_self i B) A).trans ht.sub
     ·rw [I] at hl⊢;by_cases p:j=i
      ·subst p;have:=r3 o ho e he g;split
       ·rfl
       ·exact this
      ·rw [Ng p] at hl;have:=ht.closed j o ho hl e he g;split
       ·rfl
       ·exact this
    refine Niv hC pl fr' H' W lim U M H0 w0 hQ fuel _ (A++B) fr1 H1 a' w' σ' (by simp at hf⊢;omega) ah q1 (h1.trans q2) (PO.le_trans h2 q3) (h3.trans q4) (fun j p=>?_) (by omega) ⟨q5.len,q5.own,fun r hr=>q5.free r ?_,fun r hr=>?_⟩ (by simpa using ak)
    ·apply Om;intro hc;have e1:σ j=M j:=Om fun e=>hc (O j e)
     rcases q6 j (fun e=>p (e.trans e1)) with ⟨r,_,h⟩ | h
     ·omega
     ·have:=hk.len;omega
    ·obtain ⟨b,g,z⟩:=List.mem_filterMap.1 hr;refine O0.2 ⟨List.mem_filterMap.2 ⟨b, ?_,z⟩, ?_⟩
     ·rcases Ok.1 g with h | h
      ·exact O9 _ h
      ·exact Qh _ (Nr _ h)
     ·simp only [ne_eq,decide_not,Bool.not_eq_true',decide_eq_false_iff_not];intro ae;have d:b∈A++i::B:=by
       rcases Ok.1 g with h | h
       ·exact O9 _ h
       ·exact Qh _ (Nr _ h)
      have l:b<L.length:=by rw [pl.len];exact ((ht.mem b).1 d).1
      have f:L[b]? = some (L.getD b default):=by rw [Nb,Ni l];rfl
      have:=pl.inj b i _ _ r f k z ae;subst this;rcases Ok.1 g with h | h
      ·exact s h
      ·exact y h
    ·obtain ⟨b,g,z⟩:=List.mem_filterMap.1 hr;have d:b∈A++i::B:=by
      rcases Ok.1 g with h | h
      ·exact O9 _ h
      ·exact Qh _ (Nr _ h)
     have l:b<L.length:=by rw [pl.len];exact ((ht.mem b).1 d).1
     have f:L[b]? = some (L.getD b default):=by rw [Nb,Ni l];rfl
     exact pl.dest b _ r f (Nbo z)
end
end Go.AM




