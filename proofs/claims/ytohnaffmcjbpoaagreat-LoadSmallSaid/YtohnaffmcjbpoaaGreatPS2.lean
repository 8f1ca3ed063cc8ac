/-
  Joined texts, 2 of 10. A part of the claim that the last text states.
-/
import Derived.RangeFuncRecord
import Derived.OrdersIn
import Derived.Laws.IdiomRangeMap
import Derived.Below
import Derived.Test.YtohnaffmcjbpoaaGreatPS1
set_option linter.unusedVariables false
set_option linter.unusedSimpArgs false
set_option linter.defProp false
set_option linter.unusedSectionVars false
set_option maxRecDepth 100000
set_option maxHeartbeats 4000000
namespace Go.AM
open Go.MapKept
section
variable {P:Program} {pureF:FuncId->Bool} {Pg:Prg} {W:Nat->Prop} {lim:Nat} {σ:PT} {H H':NB} {w:World} {dest:Option Nat} {ρ ρ':Operand->Value} {v:Value}
theorem OD {α β:Type} {x:Option α} {f:α->Option β} {b:β} (h:(x >>= f)=some b):∃a,x=some a/\f a=some b:=by
 cases x with
 | none=>cases h
 | some a=>exact ⟨a,rfl,h⟩
theorem Nd8 {J:Bool} {o:Oper} {c:Call} (D:o.op=.call c) {b:Builtin} (Q:c.callee=.builtin b) {U:AOp} (f:Mm P pureF J o=some U) (g:Inv Pg W lim σ H w)
  (hρ:∀x,PX x=true->VRel σ (ρ x) (ρ' x)) (hd:∀d,dest=some d->d<H.length/\σ d=none) (i:NJ lim dest U ρ H=some (v,H')):OM Pg W lim σ dest H w ((execOp ρ' o).run P w) v H':=by
 have m:=Ng4 (ρ':=ρ') o c b D Q
 unfold Mm at f
 split at f
 ·cases f
 rename_i O
 simp only [Bool.not_eq_true,Bool.not_eq_false'] at O
 have j:∀x∈c.args.toList,VRel σ (ρ x) (ρ' x):=fun x i=>hρ x (Nna (by simpa using O) (by
  rw [D];simp only [Op.operands,Call.operands,Q];simpa using i))
 rw [D] at f
 simp only [Q] at f
 cases b<;>simp only at f<;>try (cases f;done)
 case append=>
  split at f
  case h_2=>cases f
  rename_i s x st X e1 e2
  have M:c.argTypes=#[st,X]:=by apply Array.ext';simpa using e2
  have I:=j s (by simp [e1])
  have l:=j x (by simp [e1])
  have B:∀(ty:TypeId),(execOp ρ' o).run P w=((Builtin.append_ #[st,X] o.type #[ρ' s,ρ' x]).run P w).andThen fun v w'=>.ok (.value v) w':=by
   intro _
   rw [m,Njv e1,M]
   simp [builtin]
  split at f
  ·rename_i e e' E F
   obtain ⟨n,hn,f⟩:=OD f
   obtain ⟨Y,u,f⟩:=OD f
   obtain ⟨z,G,f⟩:=OD f
   split at f
   case isFalse=>cases f
   rename_i A
   cases f
   simp only [NJ] at i
   exact ZX g hd (ty:=o.type) E (str:=false) (by simpa using ⟨_,F⟩) hn u G A I l i (B 0)
  ·rename_i e E F
   obtain ⟨n,hn,f⟩:=OD f
   obtain ⟨Y,u,f⟩:=OD f
   obtain ⟨z,G,f⟩:=OD f
   split at f
   case isFalse=>cases f
   rename_i A
   cases f
   simp only [NJ] at i
   exact ZX g hd (ty:=o.type) E (str:=true) (by simpa using ⟨F,A.2⟩) hn u G A.1 I l i (B 0)
  ·cases f
 case copy=>
  split at f
  case h_2=>cases f
  rename_i d x dt rest e1 e2
  split at f
  case h_2=>cases f
  rename_i e q
  simp only [Nd] at f
  obtain ⟨n,hn,rfl⟩:=f
  obtain ⟨w',v',q1,q2,q3,q4,q5⟩:=Nl3 (P:=P) (ty:=o.type) g (Nel e2) q hn (j d (by simp [e1])) (j x (by simp [e1])) i
  refine OM.wrote g (nx:=.value v') ?_ rfl q2 q3 q4 q5
  rw [m,Njv e1]
  exact TN _ _ _ _ _ _ rfl q1
 case len=>
  split at f
  case h_2=>cases f
  rename_i x t e1 e2
  have l:=j x (by simp [e1])
  have K:c.argTypes[0]? = some t:=Nel e2
  split at f
  ·rename_i q
   cases f
   simp only [NJ] at i
   split at i
   case h_2=>cases i
   rename_i s I
   cases i
   rw [I] at l
   refine OM.plain g (v':=.int .i64 s.size) ?_ (.atom rfl)
   rw [m,ZW e1]
   exact TN _ _ _ _ _ _ rfl ((Ngp K).1 q s l.string_left)
  ·rename_i e q
   cases f
   simp only [NJ] at i
   split at i
   case h_2=>cases i
   rename_i a n cc I
   cases i
   rw [I] at l
   have:∃a' c',ρ' x=.slice a' n c':=by
    cases a with
    | none=>obtain ⟨rfl,rfl,h⟩:=l.nilslice_left;exact ⟨_,_,h⟩
    | some a=>
      obtain ⟨_,L,_,⟨_,h⟩ | ⟨_,_,_,_,_,h⟩ | ⟨_,_,rfl,h⟩⟩:=l.slice_left
      ·exact ⟨_,_,h⟩
      ·exact ⟨_,_,h⟩
      ·exact ⟨_,_,h⟩
   obtain ⟨a',c',h⟩:=this
   refine OM.plain g (v':=.int .i64 n) ?_ (.atom rfl)
   rw [m,ZW e1]
   exact TN _ _ _ _ _ _ rfl ((Ngp K).2.1 ⟨e,q⟩ _ _ _ h)
  ·rename_i k e q
   cases f
   simp only [NJ,Nd,Prod.mk.injEq] at i
   obtain ⟨es,R,rfl,rfl⟩:=i
   refine OM.plain g (v':=.int .i64 es.length) ?_ (.atom rfl)
   rw [m,ZW e1]
   refine TN _ _ _ _ _ _ rfl ?_
   rcases g.entries l R with ⟨C,rfl⟩ | ⟨r,L,ents,clock,aa,u,hL,C,Z,N,V⟩
   ·rw [C];simp [Builtin.len_,K,run_underlying q,goInt]
   ·rw [C];simp [Builtin.len_,K,run_underlying q,MapKept.run_getObj_map Z,goInt,N]
  ·rename_i n e q
   cases f
   simp only [NJ] at i
   cases i
   refine OM.plain g (v':=.int .i64 n) ?_ (.atom rfl)
   rw [m,ZW e1]
   exact TN _ _ _ _ _ _ rfl ((Ngp K).2.2 n e q)
  ·cases f
 case max=>
  cases f
  simp only [NJ] at i
  split at i
  ·cases i
  rename_i x r p
  simp only [Nd,Prod.mk.injEq] at i
  obtain ⟨z,G,rfl,rfl⟩:=i
  obtain ⟨T,h1,h2⟩:=Vn (P:=P) (w:=w) (σ:=σ) true (r.map ρ) (r.map ρ') (ρ x) (ρ' x) z (j x (by simp [p])) (V5 fun y S=>j y (by simp [p,S])) G
  refine OM.plain g (v':=T) ?_ h2
  rw [m]
  refine TN _ _ _ _ _ _ rfl ?_
  have:(c.args.map ρ').toList=ρ' x::r.map ρ':=by simp [p]
  unfold Builtin.max_
  rw [this]
  exact h1
 case min=>
  cases f
  simp only [NJ] at i
  split at i
  ·cases i
  rename_i x r p
  simp only [Nd,Prod.mk.injEq] at i
  obtain ⟨z,G,rfl,rfl⟩:=i
  obtain ⟨T,h1,h2⟩:=Vn (P:=P) (w:=w) (σ:=σ) false (r.map ρ) (r.map ρ') (ρ x) (ρ' x) z (j x (by simp [p])) (V5 fun y S=>j y (by simp [p,S])) G
  refine OM.plain g (v':=T) ?_ h2
  rw [m]
  refine TN _ _ _ _ _ _ rfl ?_
  have:(c.args.map ρ').toList=ρ' x::r.map ρ':=by simp [p]
  unfold Builtin.min_
  rw [this]
  exact h1
theorem Nrv {ac:Bool} {o:Oper} {ao:AOp} (g:Mm P pureF ac o=some ao) (u:Inv Pg W lim σ H w) (hρ:∀x,PX x=true->VRel σ (ρ x) (ρ' x)) (hd:∀d,dest=some d->d<H.length/\σ d=none)
  (A:NJ lim dest ao ρ H=some (v,H')):OM Pg W lim σ dest H w ((execOp ρ' o).run P w) v H':=by
 obtain ⟨dst,op,type,pos,after,guard⟩:=o
 by_cases Q:∃c,op=.call c
 ·obtain ⟨c,rfl⟩:=Q
  by_cases V:∃b,c.callee=.builtin b
  ·obtain ⟨b,V⟩:=V
   exact Nd8 (o:=⟨dst,.call c,type,pos,after,guard⟩) rfl V g u hρ hd A
  ·unfold Mm at g
   split at g
   ·cases g
   simp only at g
   cases hc:c.callee with
   | builtin b=>exact absurd ⟨b,hc⟩ V
   | value f=>rw [hc] at g;simp at g;subst g;simp [NJ] at A
   | invoke r m=>rw [hc] at g;simp at g
 unfold Mm at g
 split at g
 ·cases g
 rename_i an
 simp only [Bool.not_eq_true,Bool.not_eq_false'] at an
 have C:∀x∈op.operands,VRel σ (ρ x) (ρ' x):=fun x A=>hρ x (Nna (o:=⟨dst,op,type,pos,after,guard⟩) (by simpa using an) A)
 cases op<;>(try simp only at g)<;>try (cases g;done)
 case call c=>exact absurd ⟨c,rfl⟩ Q
 case move x=>
  cases g;simp only [NJ] at A;cases A
  exact OM.plain u (v':=ρ' x) rfl (C x (by simp [Op.operands]))
 case assign x=>
  cases g;simp only [NJ] at A;cases A
  exact OM.plain u (v':=ρ' x) rfl (C x (by simp [Op.operands]))
 case pick c a b=>
  cases g;simp only [NJ] at A
  have hc:=C c (by simp [Op.operands])
  split at A
  ·rename_i h;cases A;rw [h] at hc
   exact OM.plain u (v':=ρ' a) (by simp [execOp,hc.bool_left,asBool]) (C a (by simp [Op.operands]))
  ·rename_i h;cases A;rw [h] at hc
   exact OM.plain u (v':=ρ' b) (by simp [execOp,hc.bool_left,asBool]) (C b (by simp [Op.operands]))
  ·cases A
 case alloc e=>
  simp only [Nd] at g
  obtain ⟨z,X,rfl⟩:=g
  exact Njw u hd X A _ rfl
 case box e x=>
  cases g
  exact Nrj u hd (C x (by simp [Op.operands])) A _ rfl
 case build t parts=>
  obtain ⟨z,X,g⟩:=OD g
  split at g
  ·rename_i fs F
   obtain ⟨ps,a5,g⟩:=OD g
   split at g
   case isFalse=>cases g
   rename_i ae
   cases g
   exact Zq u F X a5 ae hρ A _ rfl
  ·rename_i n e F
   obtain ⟨s,J,g⟩:=OD g
   cases g
   exact ZT u F X J (fun x A=>C x.2 (by simp only [Op.operands];simp;exact ⟨x.1,by simpa using A⟩)) A _ rfl
  ·cases g
 case buildSlice t len parts=>
  split at g
  ·rename_i e F
   obtain ⟨s,J,g⟩:=OD g
   obtain ⟨z,X,g⟩:=OD g
   split at g
   ·cases g
   rename_i E
   cases g
   exact MK u hd F X J (Oq fun h=>E (.inl h)) (fun h=>E (.inr (.inl h))) (Nat.le_of_not_lt fun h=>E (.inr (.inr h)))
    (fun x A=>C x.2 (by simp only [Op.operands];simp;exact ⟨x.1,by simpa using A⟩)) A _ rfl
  ·cases g
 case load t a=>
  obtain ⟨ag,O,g⟩:=OD g
  have ha:=C a (by simp [Op.operands])
  cases ag with
  | true=>
    simp only [if_true,Nd] at g
    obtain ⟨n,hn,rfl⟩:=g
    simp only [NJ] at A
    split at A
    case h_2=>cases A
    rename_i p hp
    simp only [Nd,Prod.mk.injEq] at A
    obtain ⟨c,hc,rfl,rfl⟩:=A
    rw [hp] at ha
    obtain ⟨L,U,M,h2⟩:=ha.ptr_left
    obtain ⟨v',Z,h4⟩:=Nad (P:=P) u O hn U hc
    refine OM.plain u (v':=v') ?_ h4
    simp only [execOp]
    refine QL P w _ ?_
    simp [Instr.loadAt,Instr.sureAddr,h2,Z]
  | false=>
    simp only [Oe,if_false,Option.some.injEq] at g
    subst g
    simp only [NJ] at A
    split at A
    case h_2=>cases A
    rename_i p hp
    simp only [Nd,Prod.mk.injEq] at A
    obtain ⟨c,hc,rfl,rfl⟩:=A
    rw [hp] at ha
    obtain ⟨L,U,M,h2⟩:=ha.ptr_left
    obtain ⟨v',Z,h4⟩:=Nae (P:=P) u O U hc
    refine OM.plain u (v':=v') ?_ h4
    simp only [execOp]
    refine QL P w _ ?_
    simp [Instr.loadAt,Instr.sureAddr,h2,Z]
 case store t a x=>
  simp only [Nd] at g
  obtain ⟨n,hn,rfl⟩:=g
  have ha:=C a (by simp [Op.operands])
  have B:=C x (by simp [Op.operands])
  simp only [NJ] at A
  split at A
  case h_2=>cases A
  rename_i p hp
  split at A
  case isFalse=>cases A
  rename_i E
  simp only [Nd,Prod.mk.injEq] at A
  obtain ⟨H2,a6,rfl,rfl⟩:=A
  rw [hp] at ha
  obtain ⟨L,U,M,h2⟩:=ha.ptr_left
  obtain ⟨w',q1,q2,q3,q4⟩:=u.store (P:=P) U a6 B.cells (B.cells_one E.2)
  refine OM.wrote u (nx:=.skip) ?_ rfl (.atom rfl) q2 q3 q4
  simp only [execOp]
  refine Nb6 P w _ ?_
  have a8:(ρ' x).cells.size=n:=by have:=B.cells.1;simp at this;rw [<-this];exact E.1
  simp [Instr.storeAt,Instr.sureAddr,h2,storeVar,Tf hn,a8,q1]
 case nilCheck x=>
  cases g
  have B:=C x (by simp [Op.operands])
  simp only [NJ] at A
  split at A
  ·rename_i p hp
   cases A
   rw [hp] at B
   obtain ⟨L,U,M,h2⟩:=B.ptr_left
   exact OM.plain u (v':=ρ' x) (by simp [execOp,h2]) B
  ·rename_i f a b hp
   cases A
   rw [hp] at B
   obtain ⟨c,d,h2,_,_⟩:=B.func_left
   exact OM.plain u (v':=ρ' x) (by simp [execOp,h2]) B
  ·cases A
 case binOp op t x y yt=>
  have B:=C x (by simp [Op.operands])
  have S:=C y (by simp [Op.operands])
  have bin:∀{r},NJ lim dest (.bin op x y) ρ H=some (v,r)->OM Pg W lim σ dest H w ((execOp ρ' ⟨dst,.binOp op t x y yt,type,pos,after,guard⟩).run P w) v r:=by
   intro r A
   simp only [NJ,Nd,Prod.mk.injEq] at A
   obtain ⟨c,hc,rfl,rfl⟩:=A
   have N:ρ' x=ρ x/\ρ' y=ρ y/\VRel σ c c:=by
    have D:=hc
    unfold NF at D
    split at D
    ·rename_i k a k' b e1 e2
     rw [e1] at B;rw [e2] at S
     refine ⟨by rw [B.int_left,e1],by rw [S.int_left,e2], ?_⟩
     have:atom c=true:=by
      split at D
      ·split at D<;>cases D<;>rfl
      ·split at D<;>cases D<;>rfl
      ·split at D
       ·cases op<;>simp at D<;>first | (subst D;rfl) | (obtain ⟨_,rfl⟩:=D;rfl)
       ·cases D
     exact .atom this
    ·rename_i a b e1 e2
     rw [e1] at B;rw [e2] at S
     refine ⟨by rw [B.string_left,e1],by rw [S.string_left,e2], ?_⟩
     have:atom c=true:=by
      cases op<;>simp at D<;>first | (subst D;rfl) | (obtain ⟨_,rfl⟩:=D;rfl)
     exact .atom this
    ·cases D
   refine OM.plain u (v':=c) ?_ N.2.2
   simp only [execOp]
   refine QL P w _ ?_
   rw [N.1,N.2.1]
   exact Nmg op t x y hc
  have ad:∀{neg:Bool} {k:EqKind} {r},op=(if neg then .neq else .eql)->Ul P t=some k->NJ lim dest (.eqv neg k x y) ρ H=some (v,r)->
    OM Pg W lim σ dest H w ((execOp ρ' ⟨dst,.binOp op t x y yt,type,pos,after,guard⟩).run P w) v r:=by
   intro neg k r ap R A
   simp only [NJ] at A
   split at A
   case h_2=>cases A
   rename_i b V
   cases A
   refine OM.plain u (v':=.bool (if neg then !b else b)) ?_ (.atom rfl)
   simp only [execOp,ap]
   exact QL P w _ (Nrx w neg R x y B S V)
  split at g
  ·cases g;exact bin A
  ·cases g;exact bin A
  ·split at g
   ·simp only [Nd] at g
    obtain ⟨k,R,rfl⟩:=g
    exact ad (neg:=false) rfl R A
   ·simp only [Nd] at g
    obtain ⟨k,R,rfl⟩:=g
    exact ad (neg:=true) rfl R A
   ·cases g
 case unOp op t x=>
  cases g
  have B:=C x (by simp [Op.operands])
  simp only [NJ,Nd,Prod.mk.injEq] at A
  obtain ⟨c,hc,rfl,rfl⟩:=A
  have N:ρ' x=ρ x/\VRel σ c c:=by
   have D:=hc
   unfold PW at D
   split at D
   ·rename_i b e1;rw [e1] at B;cases D;exact ⟨by rw [B.bool_left,e1],.atom rfl⟩
   ·rename_i k n e1;rw [e1] at B;cases D;exact ⟨by rw [B.int_left,e1],.atom rfl⟩
   ·rename_i k n e1;rw [e1] at B;cases D;exact ⟨by rw [B.int_left,e1],.atom rfl⟩
   ·cases D
  refine OM.plain u (v':=c) ?_ N.2
  simp only [execOp]
  refine QL P w _ ?_
  rw [N.1]
  exact Nrt op hc
 case convert s d x=>
  have B:=C x (by simp [Op.operands])
  split at g
  ·rename_i k' k J a0
   cases g
   simp only [NJ] at A
   split at A
   case h_2=>cases A
   rename_i q n hq
   cases A
   rw [hq] at B
   refine OM.plain u (v':=.int k (k.wrap n)) ?_ (.atom rfl)
   simp only [execOp]
   refine QL P w _ ?_
   rw [B.int_left]
   simp [convert,run_underlying J,run_underlying a0,Conv.intToInt]
  ·cases g
 case makeFunc fn first captured=>
  cases fn<;>simp only at g<;>try (cases g;done)
  rename_i f
  cases g
  simp only [NJ] at A
  cases A
  refine OM.plain u (v':=.func (.func f) (first.map ρ') (captured.map ρ')) rfl ?_
  have key:∀(l:Array Operand),(∀x∈l,VRel σ (ρ x) (ρ' x))->∀i (h:i<((l.toList.map ρ).toArray).size) (h':i<(l.map ρ').size),VRel σ ((l.toList.map ρ).toArray)[i] (l.map ρ')[i]:=fun l hl i h h'=>by
   simp only [List.getElem_toArray,Qy,Array.getElem_map,Array.getElem_toList]
   exact hl _ (Array.getElem_mem _)
  exact .func (by simp) (by simp) (key first fun x A=>C x (by simp [Op.operands,A])) (key captured fun x A=>C x (by simp [Op.operands,A]))
 case makeMap t r=>
  split at g
  ·rename_i kt e F
   cases g
   simp only [NJ] at A
   split at A
   case h_2=>cases A
   rename_i hr
   cases hp:place dest (.map []) H with
   | mk k K=>
   rw [hp] at A
   cases A
   obtain ⟨i1,i2⟩:=u.allocMap hp hd
   obtain ⟨g1,g2,g3,g4,g5,g6,g7⟩:=TR hp fun d e=>(hd d e).1
   refine ⟨.value (.map (some w.heap.size)),_,_,_, ?_,rfl,VRel.map PT.put_same,i1,Stp.alloc u.fresh _,PT.le_put i2,fun j Y=>?_,g3,fun a1=>?_⟩
   ·simp only [execOp]
    refine QL P w _ ?_
    cases r with
    | none=>simp [Instr.makeMap]
    | some x=>
      have B:=C x (by simp [Op.operands])
      cases hxx:ρ x<;>simp [hxx] at hr
      rw [hxx] at B
      simp [Instr.makeMap,B.int_left,run_underlying F,asInt,asIntOf]
   ·by_cases e:j=k
    ·subst e
     cases dest with
     | none=>exact .inr ⟨rfl,by rw [g5 rfl];exact Ng _⟩
     | some d=>exact .inl (by rw [(g6 d rfl).1])
    ·simp [PT.put,e] at Y
   ·cases dest with
    | none=>exact absurd rfl a1
    | some d=>exact (g6 d rfl).2
  ·cases g
 case makeInterface t x=>cases g;simp [NJ] at A
 case panic x=>cases g;simp [NJ] at A
 case makeSlice t l c=>
  split at g
  ·rename_i e F
   obtain ⟨s,J,g⟩:=OD g
   obtain ⟨bb,V,g⟩:=OD g
   obtain ⟨z,X,g⟩:=OD g
   split at g
   ·cases g
   rename_i E
   cases g
   have bd:z.length=s:=Oq fun h=>E (.inl h)
   have bf:s≠0:=fun h=>E (.inr h)
   obtain ⟨i,G,hi,be,rfl,av⟩:=V9 X
   obtain ⟨i2,ai,a3⟩:=Mq J
   rw [hi] at ai;cases ai
   obtain ⟨i3,aj,a2⟩:=Nc9 V
   rw [hi] at aj;cases aj
   subst a3 a2
   have am:=C l (by simp [Op.operands])
   have ah:=C c (by simp [Op.operands])
   simp only [NJ] at A
   split at A
   case h_2=>cases A
   rename_i kl ln kc cn hl hc
   split at A
   case isFalse=>cases A
   rename_i aw
   obtain ⟨b1,b2,b3,b4⟩:=aw
   cases hp:place dest (.cells false ((List.range (cn.toNat*i.size)).map fun j=>G.cells.toList.getD (j % G.cells.toList.length) undef)) H with
   | mk k K=>
   rw [hp] at A
   cases A
   rw [hl] at am;rw [hc] at ah
   have T:∀j,VRel σ (G.cells.toList.getD (j % G.cells.toList.length) undef) (G.cells[j % G.cells.size]!)/\(G.cells[j % G.cells.size]!).oneCell'=true:=fun j=>by
    have Y:j % G.cells.size<G.cells.size:=Re _ (by simp at bd;omega)
    have e1:G.cells.toList.getD (j % G.cells.toList.length) undef=G.cells[j % G.cells.size]:=by
     rw [Nc,Array.length_toList,Array.getElem?_toList,Ol Y];rfl
    have e2:G.cells[j % G.cells.size]! = G.cells[j % G.cells.size]:=by simp [Y]
    rw [e1,e2]
    have:=av _ (Array.mem_toList_iff.2 (Array.getElem_mem Y))
    exact ⟨.atom this.1,this.2⟩
   refine OM.made u hd hp (cs:=madeCells G.cells (cn.toNat*i.size)) (el:=e) (fun j y Y=>?_) (by simp [size_madeCells]) u (Stp.refl _ _) (v':=.slice (some ⟨w.heap.size,0,none⟩) ln.toNat cn.toNat) ?_ ?_
   ·rw [Pw] at Y
    simp only [Nd] at Y
    obtain ⟨j',aa,rfl⟩:=Y
    have ak:j<cn.toNat*i.size:=by simpa using (List.getElem?_eq_some_iff.1 aa).1
    rw [List.getElem?_range ak] at aa
    cases aa
    exact ⟨G.cells[j % G.cells.size]!,by simp [madeCells,ak],(T j).1,(T j).2⟩
   ·simp only [execOp]
    refine QL P w _ ?_
    rw [am.int_left,ah.int_left]
    exact run_make w t e i G F hi be kl kc ln cn b1 b2 (by rw [Int.mul_comm];omega) (by omega)
   ·have au:cn.toNat<2 ^ 62:=by omega
    simpa using VRel.slice (σ:=σ.put k ⟨w.heap.size,0,(madeCells G.cells (cn.toNat*i.size)).size⟩) (i:=k) (k:=0) (n:=ln.toNat) PT.put_same au
  ·cases g
 case slice t x lo hi mx=>
  have B:=C x (by simp [Op.operands])
  have ay:∀y∈lo.toList++hi.toList++mx.toList,VRel σ (ρ y) (ρ' y):=fun y hy=>C y (by
   simp only [Op.operands];simp at hy⊢;rcases hy with h | h | h<;>simp [h])
  split at g
  ·rename_i e F
   obtain ⟨s,J,g⟩:=OD g
   split at g
   ·cases g
   cases g
   simp only [NJ,Nd,Prod.mk.injEq] at A
   obtain ⟨c,hc,rfl,rfl⟩:=A
   obtain ⟨v',q1,q2⟩:=Nf2 (P:=P) (w:=w) F J B ay hc
   refine OM.plain u (v':=v') ?_ q2
   simp only [execOp]
   exact QL P w _ q1
  ·cases g
 case fieldAddr s x f=>
  have B:=C x (by simp [Op.operands])
  split at g
  ·rename_i fs F
   obtain ⟨fd,hf,g⟩:=OD g
   obtain ⟨n,hn,g⟩:=OD g
   split at g
   ·cases g
   rename_i h0
   cases g
   simp only [NJ] at A
   split at A
   case h_2=>cases A
   rename_i p hp
   cases A
   rw [hp] at B
   obtain ⟨L,U,M,h2⟩:=B.ptr_left
   refine OM.plain u ?_ (VRel.ptr_add U M fd.offset)
   simp only [execOp]
   refine QL P w _ ?_
   rw [h2]
   exact Nhv F hf hn h0 _
  ·cases g
 case indexAddr t x ix=>
  have B:=C x (by simp [Op.operands])
  have I:=C ix (by simp [Op.operands])
  split at g
  ·rename_i e F
   obtain ⟨s,J,g⟩:=OD g
   cases g
   simp only [NJ] at A
   split at A
   case h_2=>cases A
   rename_i p len cap k n hp hi
   split at A
   case isFalse=>cases A
   rename_i hn
   cases A
   rw [hp] at B;rw [hi] at I
   obtain ⟨M,L,U,hc⟩:=B.slice_left
   have bc:∃c',ρ' x=.slice (some ⟨L.blk,L.base+p.off,none⟩) len c':=by
    rcases hc with ⟨_,h⟩ | ⟨_,_,_,_,_,h⟩ | ⟨_,_,h0,h⟩
    ·exact ⟨_,h⟩
    ·exact ⟨_,h⟩
    ·rw [h0] at hn;simp at hn;omega
   obtain ⟨c',h2⟩:=bc
   refine OM.plain u ?_ (VRel.ptr_add U M (n.toNat*s))
   simp only [execOp]
   refine QL P w _ ?_
   rw [h2,I.int_left]
   exact YW F J _ len c' k n hn
  ·cases g
 case index t x ix=>
  have B:=C x (by simp [Op.operands])
  have I:=C ix (by simp [Op.operands])
  split at g
  ·rename_i len e F
   obtain ⟨s,J,g⟩:=OD g
   obtain ⟨ag,O,g⟩:=OD g
   cases g
   simp only [NJ] at A
   split at A
   case h_2=>cases A
   rename_i cs k n az hi
   split at A
   case isFalse=>cases A
   rename_i hn
   rw [az] at B;rw [hi] at I
   obtain ⟨ys,h2,Z,h4⟩:=B.agg_left
   cases ag with
   | true=>
     simp only [if_true] at A
     cases A
     refine OM.plain u (v':=.agg (ys.extract (n.toNat*s) (n.toNat*s+s))) ?_ (VRel.agg_iff.2 ⟨?_, ?_⟩)
     ·simp only [execOp]
      refine QL P w _ ?_
      rw [h2,I.int_left,WL F J ys k n hn]
      exact Neu O J
     ·rw [extract_toList];simpa using (Z.drop (n.toNat*s)).take s
     ·rw [extract_toList];exact fun y hy=>h4 y (List.mem_of_mem_drop (Pz hy))
   | false=>
     simp only [Oe,if_false,Nd,Prod.mk.injEq] at A
     obtain ⟨c,hc,rfl,rfl⟩:=A
     obtain ⟨y,h5,h6⟩:=Z.get hc
     refine OM.plain u (v':=y) ?_ h6
     simp only [execOp]
     refine QL P w _ ?_
     rw [h2,I.int_left,WL F J ys k n hn]
     exact Nev O (by simpa using h5)
  ·rename_i F
   cases g
   simp only [NJ] at A
   split at A
   case h_2=>cases A
   rename_i q k n hq hi
   split at A
   case isFalse=>cases A
   rename_i hn
   simp only [Nd,Prod.mk.injEq] at A
   obtain ⟨b,V,rfl,rfl⟩:=A
   rw [hq] at B;rw [hi] at I
   refine OM.plain u (v':=.int .u8 b.toNat) ?_ (.atom rfl)
   simp only [execOp]
   refine QL P w _ ?_
   rw [B.string_left,I.int_left]
   exact Z9 F q k n hn V
  ·cases g
 case lookup t m k ok=>
  split at g
  ·rename_i kt e F
   obtain ⟨z,X,g⟩:=OD g
   obtain ⟨kk,R,g⟩:=OD g
   cases g
   exact Ngn u F R X (C m (by simp [Op.operands])) (C k (by simp [Op.operands])) A _ rfl
  ·cases g
 case mapUpdate t m k x=>
  split at g
  ·rename_i kt e F
   simp only [Nd] at g
   obtain ⟨kk,R,rfl⟩:=g
   obtain ⟨w',q1,q2,q3,q4,rfl⟩:=YM (P:=P) u F R (C m (by simp [Op.operands])) (C k (by simp [Op.operands])) (C x (by simp [Op.operands])) A
   refine OM.wrote u (nx:=.skip) ?_ rfl (.atom rfl) q2 q3 q4
   simp only [execOp]
   exact Nb6 P w _ q1
  ·cases g
 case insert t m k x=>
  split at g
  ·rename_i kt e F
   simp only [Nd] at g
   obtain ⟨kk,R,rfl⟩:=g
   obtain ⟨w',q1,q2,q3,q4,rfl⟩:=YM (P:=P) u F R (C m (by simp [Op.operands])) (C k (by simp [Op.operands])) (C x (by simp [Op.operands])) A
   refine OM.wrote u (nx:=.skip) ?_ rfl (.atom rfl) q2 q3 q4
   simp only [execOp]
   exact Nb6 P w _ q1
  ·cases g
 case extract x ix=>
  have B:=C x (by simp [Op.operands])
  cases g
  simp only [NJ] at A
  split at A
  case h_2=>cases A
  rename_i vs ba
  simp only [Nd,Prod.mk.injEq] at A
  obtain ⟨c,hc,rfl,rfl⟩:=A
  rw [ba] at B
  obtain ⟨ys,h2,Z⟩:=B.tuple_left
  obtain ⟨y,h5,h6⟩:=Z.get hc
  refine OM.plain u (v':=y) ?_ h6
  simp only [execOp]
  refine QL P w _ ?_
  rw [h2]
  have aq:ys[ix]? = some y:=by simpa using h5
  simp [Instr.extract,aq]
end
end Go.AM


namespace Go.AM
theorem PD (base:Nat):∀(l:List Nat) (H:NB),(OE base l H).length=H.length
 | [],_=>rfl
 | i::l,H=>by simp only [OE,Qe];exact (PD base l _).trans (by simp)
theorem PN (base:Nat) (H0:NB):∀(l:List Nat) (H:NB),(OA base l H0 H).length=H.length
 | [],_=>rfl
 | i::l,H=>by simp only [OA,Qe];exact (PN base H0 l _).trans (by simp)
theorem QV (base:Nat) {j:Nat}:∀(l:List Nat) (H:NB),(∀i∈l,base+i≠j)->(OE base l H)[j]? = H[j]?
 | [],_,_=>rfl
 | i::l,H,h=>by
   simp only [OE,Qe]
   have:=QV base (j:=j) l (H.set (base+i) .dead) fun k a=>h k (Nh _ a)
   simp only [OE] at this
   rw [this,Oh,Nf (h i Nm)]
theorem V4 (base:Nat) {j:Nat}:∀(l:List Nat) (H:NB),(∃i∈l,base+i=j)->j<H.length->(OE base l H)[j]? = some .dead
 | [],_,h,_=>by simp at h
 | i::l,H,h,hj=>by
   simp only [OE,Qe]
   by_cases hl:∃k∈l,base+k=j
   ·exact V4 base l _ hl (by simpa using hj)
   ·have a:base+i=j:=by
     obtain ⟨k,hk,e⟩:=h
     rcases Nu.1 hk with rfl | hk
     ·exact e
     ·exact absurd ⟨k,hk,e⟩ hl
    have:=QV base (j:=j) l (H.set (base+i) .dead) fun k hk e=>hl ⟨k,hk,e⟩
    simp only [OE] at this
    rw [this,Oh,Nk a,Nk (by omega)]
theorem RD (base:Nat) (H0:NB) {j:Nat}:∀(l:List Nat) (H:NB),(∀i∈l,base+i≠j)->(OA base l H0 H)[j]? = H[j]?
 | [],_,_=>rfl
 | i::l,H,h=>by
   simp only [OA,Qe]
   have:=RD base H0 (j:=j) l (H.set (base+i) (NC H0 (base+i))) fun k a=>h k (Nh _ a)
   simp only [OA] at this
   rw [this,Oh,Nf (h i Nm)]
theorem Sy (base:Nat) (H0:NB) {j:Nat}:∀(l:List Nat) (H:NB),(∃i∈l,base+i=j)->j<H.length->(OA base l H0 H)[j]? = some (NC H0 j)
 | [],_,h,_=>by simp at h
 | i::l,H,h,hj=>by
   simp only [OA,Qe]
   by_cases hl:∃k∈l,base+k=j
   ·exact Sy base H0 l _ hl (by simpa using hj)
   ·have a:base+i=j:=by
     obtain ⟨k,hk,e⟩:=h
     rcases Nu.1 hk with rfl | hk
     ·exact e
     ·exact absurd ⟨k,hk,e⟩ hl
    have:=RD base H0 (j:=j) l (H.set (base+i) (NC H0 (base+i))) fun k hk e=>hl ⟨k,hk,e⟩
    simp only [OA] at this
    rw [this,Oh,Nk a,Nk (by omega),a]
theorem ZO {H:NB} {j:Nat} (h:j<H.length):H[j]? = some (NC H j):=by
 unfold NC
 rw [Nc,Np h]
 rfl
theorem Sw (base:Nat) (l:List Nat) (H:NB):OA base l H (OE base l H)=H:=by
 apply List.ext_getElem?
 intro j
 by_cases b:j<H.length
 ·by_cases hl:∃i∈l,base+i=j
  ·rw [Sy base H l _ hl (by rw [PD];exact b),ZO b]
  ·have a:∀i∈l,base+i≠j:=fun i hi e=>hl ⟨i,hi,e⟩
   rw [RD base H l _ a,QV base l _ a]
 ·rw [N8 (by rw [PN,PD];omega),N8 (by omega)]
theorem Nty (base:Nat) (l:List Nat) (H:NB) {r:Nat} (hr:r∈l) (b:Blk):OE base l (H.set (base+r) b)=OE base l H:=by
 apply List.ext_getElem?
 intro j
 by_cases c:j<H.length
 ·by_cases hl:∃i∈l,base+i=j
  ·rw [V4 base l _ hl (by simpa using c),V4 base l _ hl c]
  ·have a:∀i∈l,base+i≠j:=fun i hi e=>hl ⟨i,hi,e⟩
   rw [QV base l _ a,QV base l _ a,Oh,Nf (a r hr)]
 ·rw [N8 (by rw [PD];simp;omega),N8 (by rw [PD];omega)]
theorem Nhd (base:Nat) (l:List Nat) (H X:NB) {r:Nat} (hr:r∈l) (b:Blk) (d:base+r<H.length) (f:H.length<=X.length):OA base l (H.set (base+r) b) X=(OA base l H X).set (base+r) b:=by
 apply List.ext_getElem?
 intro j
 by_cases c:j<X.length
 ·by_cases hl:∃i∈l,base+i=j
  ·rw [Sy base _ l X hl c,Oh]
   by_cases he:base+r=j
   ·subst he
    rw [Nk rfl,Nk (by rw [PN];exact c)]
    unfold NC
    rw [Nc,Q8 d]
    rfl
   ·rw [Nf he,Sy base H l X hl c]
    unfold NC
    rw [Nc,Qi he,<-Nc]
  ·have a:∀i∈l,base+i≠j:=fun i hi e=>hl ⟨i,hi,e⟩
   rw [RD base _ l X a,Qi (a r hr),RD base H l X a]
 ·rw [N8 (by rw [PN];omega),N8 (by rw [Pd,PN];omega)]
theorem UL {d:Nat} {b:Blk} {H:NB}:place (some d) b H=(d,H.set d b):=rfl
theorem Na9 {o:AOp} (d:kind o=.p) (lim:Nat) (dest:Option Nat) (ρ:Operand->Value) (H:NB) :
  NJ lim dest o ρ H=((NJ lim dest o ρ []).map (·.1)).map (·,H):=by
 cases o<;>simp [kind] at d<;>simp only [NJ]
 case mov=>rfl
 case lenK=>rfl
 case makeFunc=>rfl
 case pick c a b=>cases ρ c<;>first | rfl | (rename_i b;cases b<;>rfl)
 case bin op x y=>cases NF op (ρ x) (ρ y)<;>rfl
 case eqv neg k x y=>cases aEq k (ρ x) (ρ y)<;>rfl
 case un op x=>cases PW op (ρ x)<;>rfl
 case conv k x=>cases ρ x<;>rfl
 case build z ps=>cases Sg ρ ps z<;>rfl
 case nilCheck x=>cases ρ x<;>first | rfl | (rename_i a;cases a<;>rfl) | (rename_i f a b;cases f<;>rfl)
 case fieldAddr o x=>cases ρ x<;>first | rfl | (rename_i a;cases a<;>rfl)
 case field1 o x=>cases ρ x<;>first | rfl | (rename_i cs;simp only;cases cs.toList[o]?<;>rfl)
 case fieldN o n x=>cases ρ x<;>rfl
 case idxAddrA l e x i=>split<;>first | rfl | (split<;>rfl)
 case idxAddrS e x i=>split<;>first | rfl | (split<;>rfl)
 case idxA l e g x i=>
  split
  ·split
   ·split
    ·rfl
    ·simp [Function.comp_def]
   ·rfl
  ·rfl
 case idxStr x i=>
  split
  ·split
   ·simp [Function.comp_def]
   ·rfl
  ·rfl
 case sliceS e x lo hi mx=>cases Uj e ρ (ρ x) lo hi mx<;>rfl
 case sliceA n e x lo hi mx=>
  split
  ·split
   ·split<;>rfl
   ·rfl
  ·rfl
 case sliceStr x lo hi=>
  split
  ·split<;>rfl
  ·rfl
 case lenStr x=>cases ρ x<;>rfl
 case lenSlice x=>cases ρ x<;>rfl
 case capSlice x=>
  cases ρ x<;>try rfl
  rename_i a n c
  by_cases h:c<2 ^ 62<;>simp only [h,if_true,if_false]<;>rfl
 case die=>rfl
 case minmax mx xs=>
  cases xs with
  | nil=>rfl
  | cons x r=>simp only;cases Sq mx (ρ x) (r.map ρ)<;>rfl
 case extract i x=>cases ρ x<;>first | rfl | (rename_i vs;simp only;cases vs.toList[i]?<;>rfl)
 case strId x=>cases ρ x<;>rfl
 case call mp f args=>split at d<;>cases d
theorem Nvh {o:AOp} (b:kind o=.p) {lim:Nat} {dest:Option Nat} {ρ:Operand->Value} {H H':NB} {v:Value} (h:NJ lim dest o ρ H=some (v,H')) :
  H'=H/\∀a,NJ lim dest o ρ a=some (v,a):=by
 rw [Na9 b] at h
 cases hg:(NJ lim dest o ρ []).map (·.1) with
 | none=>rw [hg] at h;cases h
 | some c=>
   rw [hg] at h
   cases h
   exact ⟨rfl,fun a=>by rw [Na9 b,hg];rfl⟩
theorem Za {o:AOp} (a:kind o=.r) (hc:∀mp f args,o≠.call mp f args) {lim:Nat} {dest:Option Nat} {ρ:Operand->Value} {H H':NB} {v:Value} (h:NJ lim dest o ρ H=some (v,H')):H'=H:=by
 have fin:∀{x:Option Value},(x.map fun c=>(c,H))=some (v,H')->H'=H:=by
  intro x h
  cases x with
  | none=>cases h
  | some c=>cases h;rfl
 cases o<;>simp [kind] at a<;>simp only [NJ] at h
 case load1=>split at h;exact fin h;cases h
 case loadN=>
  split at h
  ·simp only [Nd,Prod.mk.injEq] at h;obtain ⟨_,_,_,h⟩:=h;exact h.symm
  ·cases h
 case loadR=>
  split at h
  ·split at h
   ·simp only [Nd,Prod.mk.injEq] at h;obtain ⟨_,_,_,h⟩:=h;exact h.symm
   ·cases h
  ·cases h
 case lenMap=>simp only [Nd,Prod.mk.injEq] at h;obtain ⟨_,_,_,h⟩:=h;exact h.symm
 case lookup=>
  split at h
  ·split at h
   ·split at h<;>cases h<;>rfl
   ·cases h
  ·cases h
 case rowMark=>
  split at h
  ·split at h
   ·split at h
    ·cases h;rfl
    ·cases h
   ·cases h
  ·cases h
 case b2s=>
  split at h
  ·split at h<;>cases h;rfl
  ·split at h
   ·split at h<;>cases h;rfl
   ·cases h
  ·cases h
 case call=>cases h
theorem Nvj {o:AOp} (c:kind o=.a) {lim d:Nat} {ρ:Operand->Value} {H H':NB} {v:Value} (h:NJ lim (some d) o ρ H=some (v,H')) :
  ∃b,H'=H.set d b/\∀e,NJ lim (some d) o ρ e=some (v,e.set d b):=by
 cases o<;>simp [kind] at c<;>simp only [NJ,UL] at h⊢
 case alloc=>cases h;exact ⟨_,rfl,fun _=>rfl⟩
 case box x=>
  split at h
  case isFalse=>cases h
  rename_i g
  cases h
  exact ⟨_,rfl,fun _=>by rw [Nk g]⟩
 case buildSlice=>
  split at h
  case h_2=>cases h
  cases h
  exact ⟨_,rfl,fun _=>rfl⟩
 case makeSlice=>
  split at h
  case h_2=>cases h
  split at h
  case isFalse=>cases h
  rename_i hc
  cases h
  exact ⟨_,rfl,fun _=>by rw [Nk hc]⟩
 case growNil=>
  split at h
  case h_2=>cases h
  split at h
  case isFalse=>cases h
  rename_i hc
  cases h
  exact ⟨_,rfl,fun _=>by rw [Nk hc]⟩
 case makeMap=>
  split at h
  case h_2=>cases h
  cases h
  exact ⟨_,rfl,fun _=>rfl⟩
 case call mp f args=>split at c<;>cases c
theorem Y6 {X:NB} {i j:Nat} {b:Blk} (h:i≠j):NC (X.set j b) i=NC X i:=by
 unfold NC;rw [Nc,Nc,Qi (Ne.symm h)]
theorem Vf {o:AOp} (h:kind o=.s):Zb o=true:=by
 cases o<;>(try (simp [kind] at h;done))<;>(try rfl)
 simp only [kind] at h
 split at h<;>cases h
theorem Nvn {o:AOp} (h:Zb o=true):kind o=.s/\makes o=false:=by
 cases o<;>simp [Zb] at h
 exact ⟨rfl,rfl⟩
theorem Nvg {o:AOp} (g:kind o=.s) {lim d:Nat} {ρ:Operand->Value} {H H':NB} {v:Value} (h:NJ lim (some d) o ρ H=some (v,H')) :
  ∃b,H'=H.set d b/\∀e,NC e d=NC H d->NJ lim (some d) o ρ e=some (v,e.set d b):=by
 have i:=Vf g
 cases o<;>simp [Zb] at i
 rename_i n a x
 cases ha:ρ a with
 | pointer q=>
   cases q with
   | none=>simp [NJ,ha] at h
   | some p=>
     simp only [NJ,ha] at h⊢
     split at h
     case isFalse=>cases h
     rename_i hc
     simp only [Nd,Prod.mk.injEq] at h
     obtain ⟨K,h1,rfl,rfl⟩:=h
     unfold storeAt at h1
     rw [hc.1] at h1
     split at h1
     case h_2=>cases h1
     rename_i c f
     split at h1
     case isFalse=>cases h1
     rename_i hl
     cases h1
     refine ⟨_,rfl,fun e h2=>?_⟩
     rw [Nk hc]
     unfold storeAt
     rw [hc.1,h2,f]
     simp only
     rw [Nk hl]
     rfl
 | _=>simp [NJ,ha] at h
theorem Wj {o:AOp} {lim:Nat} {dest:Option Nat} {ρ:Operand->Value} {H:NB} {r} (h:NJ lim dest o ρ H=some r):NJ lim dest (Zx o) ρ H=some r:=by
 cases o<;>try exact h
 case loadR n x=>
  cases ha:ρ x with
  | pointer q=>
    cases q with
    | none=>simp [NJ,ha] at h
    | some p=>
      simp only [NJ,ha] at h
      split at h
      case isFalse=>cases h
      cases n with
      | none=>simp only [Zx,NJ,ha];exact h
      | some k=>
        simp only [Zx,NJ,ha]
        simp only [loadX,Option.map_map] at h
        exact h
  | _=>simp [NJ,ha] at h
 case storeD n a x=>
  cases dest with
  | none=>simp [NJ] at h
  | some d=>
    cases ha:ρ a with
    | pointer q=>
      cases q with
      | none=>simp [NJ,ha] at h
      | some p=>
        simp only [NJ,ha] at h
        split at h
        case isFalse=>cases h
        rename_i hc
        simp only [Zx,NJ,ha]
        rw [Nk hc.2]
        exact h
    | _=>simp [NJ,ha] at h
 case append0=>
  simp only [NJ] at h
  split at h
  ·rename_i b;simp only [Zx,NJ,b];exact h
  ·cases h
 case appendL=>
  simp only [NJ] at h
  split at h
  ·rename_i b;simp only [Zx,NJ,b];exact h
  ·rename_i b
   split at h
   ·simp only [Zx,NJ,b];exact h
   ·cases h
  ·cases h
theorem Nba {o:AOp} (h:isL o=true):kind o=.w/\makes o=true/\isL (Zx o)=false/\kind (Zx o)=.w/\makes (Zx o)=true:=by
 cases o<;>simp [isL] at h
 simp [Zx,kind,makes,isL]
theorem Nqm {o:AOp} (f:isL o=true) {lim d:Nat} {ρ:Operand->Value} {H H':NB} {v:Value} (h:NJ lim (some d) o ρ H=some (v,H')) (j:Nat) (c:j≠d):H'[j]? = H[j]?\/H'[j]? = some .dead:=by
 cases o<;>simp [isL] at f
 have set:∀{H:NB} {i:Nat} {b:Blk},j≠i->(H.set i b)[j]? = H[j]?:=fun {H i b} h=>by rw [Oh,Nf (Ne.symm h)]
 have dead:∀{H:NB} {i:Nat},(H.set i .dead)[j]? = H[j]?\/(H.set i .dead)[j]? = some .dead:=fun {H i}=>by
  by_cases e:i=j
  ·subst e
   rw [Oh,Nk rfl]
   by_cases hi:i<H.length
   ·rw [Nk hi];exact .inr rfl
   ·rw [Nf hi,N8 (by omega)];exact .inl rfl
  ·exact .inl (set (Ne.symm e))
 simp only [NJ] at h
 split at h
 ·unfold OW at h
  split at h
  case h_2=>cases h
  rename_i e1 e2 e3
  cases e1
  split at h
  ·cases h
  split at h
  ·cases h;exact .inl rfl
  simp only at h
  split at h
  ·cases h;exact .inl (set c)
  ·cases h
 ·split at h
  case isFalse=>cases h
  rename_i hc
  unfold OW at h
  split at h
  case h_2=>cases h
  rename_i e1 e2 e3
  cases e1
  split at h
  ·cases h
  split at h
  ·cases h;exact .inl rfl
  repeat' (split at h)
  all_goals first
   | (cases h;done)
   | contradiction
   | (cases h;exact .inl rfl)
   | (cases h;exact .inl (set c))
   | (cases h;rename_i a;simp only [place,Prod.mk.injEq] at a;obtain ⟨_,rfl⟩:=a;rw [set c];exact dead)
   | (cases h;rename_i a;simp only [place,Prod.mk.injEq] at a;obtain ⟨_,rfl⟩:=a;exact .inl (set c))
   | (exfalso;omega)
 ·cases h
theorem Nvi {o:AOp} (a:kind o=.n) {lim d:Nat} {ρ:Operand->Value} {H H':NB} {v:Value} (h:NJ lim (some d) o ρ H=some (v,H')):H'=H\/∃b,H'=H.set d b:=by
 cases o<;>simp [kind] at a<;>simp only [NJ] at h
 case append0=>
  split at h
  case h_2=>cases h
  unfold OW at h
  split at h
  case h_2=>cases h
  rename_i e1 e2 e3
  cases e1
  split at h
  ·cases h
  split at h
  ·cases h;exact .inl rfl
  split at h
  ·split at h
   ·simp only [UL] at h;cases h;exact .inr ⟨_,rfl⟩
   ·cases h
  ·split at h
   ·cases h
   split at h
   ·rename_i q;exact absurd q (by unfold loose;omega)
   ·split at h
    ·split at h
     ·omega
     ·simp only [UL] at h;cases h;exact .inr ⟨_,rfl⟩
    ·cases h
 case call mp f args=>split at a<;>cases a
theorem Nrw {o:AOp} {lim:Nat} {dest:Option Nat} {ρ ρ':Operand->Value} {H:NB} (h:∀x∈o.operands,ρ x=ρ' x):NJ lim dest o ρ H=NJ lim dest o ρ' H:=by
 have k:∀(ps:List (Nat×Nat×Operand)) (c:List Value),(∀x∈ps.map (·.2.2),ρ x=ρ' x)->Sg ρ ps c=Sg ρ' ps c:=by
  intro ps
  induction ps with
  | nil=>intro c _;rfl
  | cons p ps ih=>
    intro c hp
    obtain ⟨o,s,x⟩:=p
    simp only [Sg,hp x (by simp)]
    split
    ·exact ih _ fun y d=>hp y (by simp at d⊢;exact .inr d)
    ·rfl
 have j:∀(len cap:Nat) (lo hi mx:Option Operand),(∀x∈lo.toList++hi.toList++mx.toList,ρ x=ρ' x)->bounds ρ len cap lo hi mx=bounds ρ' len cap lo hi mx:=by
  intro len cap lo hi mx g
  cases lo<;>cases hi<;>cases mx<;>simp at g<;>unfold bounds<;>(try simp only [g])
 cases o<;>simp only [AOp.operands] at h<;>simp only [NJ]
 case build z ps=>rw [k ps z h]
 case buildSlice n z ps=>rw [k ps z h]
 case sliceS e x lo hi mx=>
  have i:=h x (by simp)
  have g:=fun len cap=>j len cap lo hi mx fun y d=>h y (Nh _ d)
  simp only [i,Uj,g]
 case sliceA n e x lo hi mx=>
  have i:=h x (by simp)
  have g:=fun len cap=>j len cap lo hi mx fun y d=>h y (Nh _ d)
  simp only [i,g]
 case sliceStr x lo hi=>
  have i:=h x (by simp)
  have g:=fun len cap=>j len cap lo hi none fun y d=>h y (Nh _ (by simpa using d))
  simp only [i,g]
 case minmax mx xs=>
  cases xs with
  | nil=>rfl
  | cons x r=>simp only [h x (by simp),P6 fun y d=>h y (Nh _ d)]
 case makeMap hint=>
  cases hint with
  | none=>rfl
  | some x=>simp only [h x (by simp)]
 case makeFunc f a b=>
  rw [P6 fun y d=>h y (by simp [d]),P6 (l:=b) fun y d=>h y (by simp [d])]
 all_goals (first | rfl | (simp only [Nu,On,or_false,forall_eq_or_imp,forall_eq] at h;simp only [h]))
structure CallOk0 (C:TZ):Prop where
 pure:∀lim g as H v H',C true lim g as H=some (v,H')->H'=H
 len:∀mp lim g as H v H',C mp lim g as H=some (v,H')->lim<=H.length->H.length<=H'.length
 keep:∀mp lim g as H v H',C mp lim g as H=some (v,H')->lim<=H.length->∀j,j<lim->H'[j]? = H[j]?
theorem Vb {lim:Nat} {H H':NB} {a:Addr} {vs:List Value} (h:storeAt lim H a vs=some H'):H'.length=H.length:=by
 unfold storeAt at h
 split at h
 ·split at h
  ·cases h;simp
  ·cases h
 ·cases h
theorem Naf {o:AOp} (b:isL o=false) (a:kind o=.w) {lim d:Nat} {ρ:Operand->Value} {H H':NB} {v:Value} (h:NJ lim (some d) o ρ H=some (v,H')):H'.length=H.length:=by
 cases o<;>simp [kind] at a<;>simp only [NJ] at h
 case store=>
  split at h
  ·split at h
   ·simp only [Nd,Prod.mk.injEq] at h;obtain ⟨_,h1,_,rfl⟩:=h;exact Vb h1
   ·cases h
  ·cases h
 case append=>
  unfold OW at h
  split at h
  case h_2=>cases h
  split at h
  ·cases h
  split at h
  ·cases h;rfl
  split at h
  ·split at h
   ·simp only [UL] at h;cases h;simp
   ·cases h
  ·split at h
   ·cases h
   split at h
   ·split at h
    ·split at h
     ·simp only [UL] at h;cases h;simp
     ·cases h
    ·cases h
   ·split at h
    ·split at h
     ·split at h
      ·rename_i h1;cases h;exact Vb h1
      ·cases h
     ·simp only [UL] at h;cases h;simp
    ·cases h
 case copy=>
  split at h
  ·split at h
   ·split at h
    ·split at h
     ·cases h;rfl
     ·simp only [Nd,Prod.mk.injEq] at h;obtain ⟨_,h1,_,rfl⟩:=h;exact Vb h1
    ·split at h
     ·cases h;rfl
     ·cases h
   ·cases h
  ·cases h
 case mapUpdate=>
  split at h
  ·split at h
   ·split at h
    ·split at h<;>cases h<;>simp
    ·cases h
   ·cases h
  ·cases h
 case clear=>
  split at h
  ·split at h
   ·cases h;rfl
   ·simp only [Nd,Prod.mk.injEq] at h;obtain ⟨_,h1,_,rfl⟩:=h;exact Vb h1
  ·cases h
 case delete=>cases h
 case call=>split at a<;>cases a
 case appendL=>simp [isL] at b
theorem Xh {o:AOp} (a:kind o=.w) {lim d:Nat} {ρ:Operand->Value} {H H':NB} {v:Value} (h:NJ lim (some d) o ρ H=some (v,H')):H'.length=H.length:=by
 cases hL:isL o with
 | false=>exact Naf hL a h
 | true=>obtain ⟨_,_,h1,h2,_⟩:=Nba hL;exact Naf h1 h2 (Wj h)
structure Planned (x:AIns):Prop where
 bare:kind x.op=.p\/kind x.op=.a\/kind x.op=.s->x.mask=[]
 dest:makes x.op=true->∃r,x.dest=some r
 home:Zb x.op=true->∃r,x.dest=some r
theorem Y0 {o:AOp} (h:kind o=.a):makes o=true:=by cases o<;>simp_all [makes,kind]
theorem XW {o:AOp} (a:kind o=.w) (b:makes o=false) {lim:Nat} {dest:Option Nat} {ρ:Operand->Value} {H H':NB} {v:Value} (h:NJ lim dest o ρ H=some (v,H')):H'.length=H.length:=by
 have key:NJ lim dest o ρ H=NJ lim (some 0) o ρ H:=by
  cases o<;>simp [kind] at a<;>simp [makes] at b<;>rfl
 rw [key] at h
 exact Xh a h
section
variable {C:TZ} {N lim base:Nat}
def PQ (C:TZ) (lim base:Nat) (i:AIns) (ρ:Operand->Value) (H:NB):Option (Value×NB):=
 match QZ C lim (i.dest.map (base+·)) i.op ρ (OE base i.mask H) with
 | some (v,H')=>some (v,OA base i.mask H H')
 | none=>none
theorem SI {i:AIns} {fr:Nat->Value} {H:NB}:Ti C N lim (some base) i fr H =
  match RY N fr i.guard with
  | none=>none
  | some false=>some (undef,H)
  | some true=>PQ C lim base i (ev fr) H:=rfl
theorem PE {o:AOp} (h:∀mp f args,o≠.call mp f args) (dest:Option Nat) (ρ:Operand->Value) (H:NB):QZ C lim dest o ρ H=NJ lim dest o ρ H:=by
 cases o<;>first | rfl | (exact absurd rfl (h _ _ _))
theorem Nqi {o:AOp} (h:∃mp f args,o=.call mp f args):kind o=.r\/kind o=.c:=by
 obtain ⟨mp,f,args,rfl⟩:=h
 cases mp<;>simp [kind,CM.isPure]
theorem XV {o:AOp} (h:kind o=.p\/kind o=.a\/kind o=.w):∀mp f args,o≠.call mp f args:=fun mp f args e=>by
 rcases Nqi ⟨mp,f,args,e⟩ with h' | h'<;>rw [h'] at h<;>simp at h
theorem Nwz {i:AIns} (hp:Planned i) (a:kind i.op=.p) (ρ:Operand->Value) (H:NB):PQ C lim base i ρ H=((NJ lim (i.dest.map (base+·)) i.op ρ []).map (·.1)).map (·,H):=by
 unfold PQ
 rw [hp.bare (.inl a),PE (XV (.inl a))]
 simp only [OE,OA,List.foldl_nil]
 rw [Na9 a]
 cases (Option.map (fun x=>x.1) (NJ lim (Option.map (fun x=>base+x) i.dest) i.op ρ []))<;>rfl
theorem Yi (c:CallOk0 C) {i:AIns} (a:kind i.op=.r) {ρ:Operand->Value} {H H':NB} {v:Value} (h:PQ C lim base i ρ H=some (v,H')):H'=H:=by
 unfold PQ at h
 split at h
 case h_2=>cases h
 rename_i v1 H1 h1
 cases h
 have:H1=OE base i.mask H:=by
  by_cases hc:∃mp f args,i.op=.call mp f args
  ·obtain ⟨mp,f,args,hc⟩:=hc
   rw [hc] at h1 a
   have b:mp=.pure:=by cases mp<;>simp [kind,CM.isPure] at a⊢
   subst b
   simp only [QZ] at h1
   split at h1
   ·exact c.pure _ _ _ _ _ _ (Tm h1).1
   ·cases h1
  ·rw [PE (fun mp f args e=>hc ⟨mp,f,args,e⟩)] at h1
   exact Za a (fun mp f args e=>hc ⟨mp,f,args,e⟩) h1
 rw [this,Sw]
theorem Ndd {i:AIns} (hp:Planned i) (c:kind i.op=.a) {r:Nat} (hr:i.dest=some r) {ρ:Operand->Value} {H H':NB} {v:Value} (h:PQ C lim base i ρ H=some (v,H')) :
  ∃b,H'=H.set (base+r) b/\∀d,PQ C lim base i ρ d=some (v,d.set (base+r) b):=by
 unfold PQ at h⊢
 rw [hp.bare (.inr (.inl c)),PE (XV (.inr (.inl c))),hr] at h
 simp only [OE,OA,List.foldl_nil,Nz] at h
 split at h
 case h_2=>cases h
 rename_i v1 H1 h1
 cases h
 obtain ⟨b,e1,e2⟩:=Nvj c h1
 refine ⟨b,e1,fun d=>?_⟩
 rw [hp.bare (.inr (.inl c)),PE (XV (.inr (.inl c))),hr]
 simp only [OE,OA,List.foldl_nil,Nz,e2]
theorem Nmc {i:AIns} (hp:Planned i) (d:kind i.op=.s) {r:Nat} (hr:i.dest=some r) {ρ:Operand->Value} {H H':NB} {v:Value} (h:PQ C lim base i ρ H=some (v,H')) :
  ∃b,H'=H.set (base+r) b/\∀a,NC a (base+r)=NC H (base+r)->PQ C lim base i ρ a=some (v,a.set (base+r) b):=by
 have c:∀mp f args,i.op≠.call mp f args:=fun mp f args e=>by have:=Vf d;rw [e] at this;simp [Zb] at this
 unfold PQ at h⊢
 rw [hp.bare (.inr (.inr d)),PE c,hr] at h
 simp only [OE,OA,List.foldl_nil,Nz] at h
 split at h
 case h_2=>cases h
 rename_i v1 H1 h1
 cases h
 obtain ⟨b,e1,e2⟩:=Nvg d h1
 refine ⟨b,e1,fun a h2=>?_⟩
 rw [hp.bare (.inr (.inr d)),PE c,hr]
 simp only [OE,OA,List.foldl_nil,Nz,e2 a h2]
theorem Nlp {o:AOp} (a:kind o=.n) {lim d:Nat} {ρ:Operand->Value} {H H':NB} {v:Value} (h:NJ lim (some d) o ρ H=some (v,H')):H'.length=H.length:=by
 rcases Nvi a h with rfl | ⟨b,rfl⟩
 ·rfl
 ·simp
theorem Nng {o:AOp} (h:kind o=.n):makes o=true:=by
 cases o<;>(try (simp_all [makes,kind];done))
 rename_i mp f args
 cases mp<;>simp [kind,CM.isPure] at h
theorem Nau (base:Nat) (l:List Nat) (H:NB) (d:Nat) (b:Blk):OA base l H ((OE base l H).set d b)=H\/OA base l H ((OE base l H).set d b)=H.set d b:=by
 by_cases hd:∃i∈l,base+i=d
 ·left
  apply List.ext_getElem?
  intro j
  by_cases c:j<H.length
  ·by_cases hl:∃i∈l,base+i=j
   ·rw [Sy base H l _ hl (by simp [PD];exact c),ZO c]
   ·have a:∀i∈l,base+i≠j:=fun i hi e=>hl ⟨i,hi,e⟩
    rw [RD base H l _ a,Oh,Nf (fun e=>hl (by rw [<-e];exact hd)),QV base l _ a]
  ·rw [N8 (by rw [PN];simp [PD];omega),N8 (by omega)]
 ·right
  apply List.ext_getElem?
  intro j
  by_cases c:j<H.length
  ·by_cases hl:∃i∈l,base+i=j
   ·rw [Sy base H l _ hl (by simp [PD];exact c),Oh,Nf (fun e=>hd (by rw [e];exact hl)),ZO c]
   ·have a:∀i∈l,base+i≠j:=fun i hi e=>hl ⟨i,hi,e⟩
    rw [RD base H l _ a,Oh,Oh,PD,QV base l _ a]
  ·rw [N8 (by rw [PN];simp [PD];omega),N8 (by simp;omega)]
theorem Nw0 {i:AIns} (hp:Planned i) (a:kind i.op=.n) {ρ:Operand->Value} {H H':NB} {v:Value} (h:PQ C lim base i ρ H=some (v,H')) :
  ∃r,i.dest=some r/\(H'=H\/∃b,H'=H.set (base+r) b):=by
 obtain ⟨r,hr⟩:=hp.dest (Nng a)
 refine ⟨r,hr, ?_⟩
 unfold PQ at h
 have c:∀mp f args,i.op≠.call mp f args:=fun mp f args e=>by rw [e] at a;cases mp<;>simp [kind,CM.isPure] at a
 rw [PE c,hr] at h
 simp only [Nz] at h
 split at h
 case h_2=>cases h
 rename_i v1 H1 h1
 cases h
 rcases Nvi a h1 with rfl | ⟨b,rfl⟩
 ·rw [Sw];exact .inl rfl
 ·rcases Nau base i.mask H (base+r) b with e | e
  ·exact .inl e
  ·exact .inr ⟨b,e⟩
theorem N1v {o:AOp} (h:kind o=.c):∃mp f args,o=.call mp f args:=by
 cases o<;>simp [kind] at h
 exact ⟨_,_,_,rfl⟩
theorem Nhn (t:CallOk0 C) {i:AIns} (hp:Planned i) {ρ:Operand->Value} {A X:NB} {v:Value} (hl:lim<=A.length) (d:QZ C lim (i.dest.map (base+·)) i.op ρ A=some (v,X)):A.length<=X.length/\(kind i.op≠.c->X.length=A.length):=by
 by_cases hc:∃mp f args,i.op=.call mp f args
 ·obtain ⟨mp,f,args,hc⟩:=hc
  rw [hc] at d
  simp only [QZ] at d
  split at d
  case h_2=>cases d
  have l:=(Tm d).1
  have m:mp.lim lim A<=A.length:=by cases mp<;>simp [CM.lim,hl]
  refine ⟨t.len _ _ _ _ _ _ _ l m,fun j=>?_⟩
  rw [hc] at j
  have o:mp=.pure:=by cases mp<;>simp [kind,CM.isPure] at j⊢
  subst o
  rw [t.pure _ _ _ _ _ _ l]
 ·have k:∀mp f args,i.op≠.call mp f args:=fun mp f args e=>hc ⟨mp,f,args,e⟩
  rw [PE k] at d
  have:X.length=A.length:=by
   cases j:kind i.op with
   | p=>rw [Na9 j] at d;simp only [Nd,Prod.mk.injEq] at d;obtain ⟨_,_,_,h⟩:=d;rw [h]
   | r=>rw [Za j k d]
   | a=>
     obtain ⟨q,g⟩:=hp.dest (Y0 j)
     rw [g] at d
     obtain ⟨b,e1,_⟩:=Nvj j d
     rw [e1];simp
   | w=>
     cases hm:makes i.op with
     | true=>
       obtain ⟨q,g⟩:=hp.dest hm
       rw [g] at d
       exact Xh j d
     | false=>exact XW j hm d
   | n=>
     obtain ⟨q,g⟩:=hp.dest (Nng j)
     rw [g] at d
     exact Nlp j d
   | c=>exact absurd (N1v j) (fun ⟨_,_,_,e⟩=>k _ _ _ e)
   | s=>
     obtain ⟨q,g⟩:=hp.home (Vf j)
     rw [g] at d
     obtain ⟨b,e1,_⟩:=Nvg j d
     rw [e1];simp
  exact ⟨by omega,fun _=>this⟩
theorem Yj (a:CallOk0 C) {i:AIns} (hp:Planned i) {ρ:Operand->Value} {H H':NB} {v:Value} (hl:lim<=H.length) (h:PQ C lim base i ρ H=some (v,H')):H.length<=H'.length:=by
 unfold PQ at h
 split at h
 case h_2=>cases h
 rename_i v1 X h1
 cases h
 have:=(Nhn a hp (by rw [PD];exact hl) h1).1
 rw [PD] at this
 rw [PN];exact this
theorem Ux (d:CallOk0 C) {i:AIns} (hp:Planned i) {r:Nat} (hr:r∈i.mask) (ρ:Operand->Value) (H:NB) (b:Blk) (hl:lim<=H.length) (a:base+r<H.length) :
  PQ C lim base i ρ (H.set (base+r) b)=(PQ C lim base i ρ H).map fun p=>(p.1,p.2.set (base+r) b):=by
 unfold PQ
 rw [Nty base i.mask H hr b]
 cases hs:QZ C lim (i.dest.map (base+·)) i.op ρ (OE base i.mask H) with
 | none=>rfl
 | some p=>
   obtain ⟨v,X⟩:=p
   simp only [Nz]
   have c:=(Nhn d hp (by rw [PD];exact hl) hs).1
   rw [PD] at c
   rw [Nhd base i.mask H X hr b a c]
theorem Ndc (b:CallOk0 C) {i:AIns} (hp:Planned i) {r:Nat} (hr:r∈i.mask) {ρ:Operand->Value} {H H':NB} {v:Value} (hl:lim<=H.length) (c:base+r<H.length) (h:PQ C lim base i ρ H=some (v,H')):NC H' (base+r)=NC H (base+r):=by
 have a:=Yj b hp hl h
 unfold PQ at h
 split at h
 case h_2=>cases h
 rename_i v1 X h1
 cases h
 rw [PN] at a
 have:=Sy base H i.mask X ⟨r,hr,rfl⟩ (by omega)
 unfold NC
 rw [Nc,this]
 rfl
structure Sep (x y:AIns):Prop where
 apart:MN x y=true
 calm:AM.calm x.op y.op=true
 maskY:(kind y.op=.r\/kind y.op=.w\/kind y.op=.n\/kind y.op=.c)->∀r,x.dest=some r->r∈y.mask
 maskX:(kind x.op=.r\/kind x.op=.w\/kind x.op=.n\/kind x.op=.c)->∀r,y.dest=some r->r∈x.mask
 dests:∀r,x.dest=some r->y.dest≠some r
theorem Nt1 {i:AIns} {t:Nat} (h:Operand.tmp t∈i.op.operands):t∈i.looks:=by
 unfold AIns.looks
 exact Ny _ (List.mem_filterMap.2 ⟨.tmp t,h,rfl⟩)
theorem Nix {i:AIns} {t:Nat} {b:Bool} (h:i.guard=some (t,b)):t∈i.looks:=by
 unfold AIns.looks
 rw [h]
 exact N1 _ (by simp)
theorem Z5 {o:AOp} {dest:Option Nat} {ρ ρ':Operand->Value} {H:NB} (h:∀x∈o.operands,ρ x=ρ' x):QZ C lim dest o ρ H=QZ C lim dest o ρ' H:=by
 by_cases hc:∃mp f args,o=.call mp f args
 ·obtain ⟨mp,f,args,rfl⟩:=hc
  simp only [AOp.operands] at h
  simp only [QZ,h f (by simp),P6 fun y b=>h y (Nh _ b)]
 ·have a:∀mp f args,o≠.call mp f args:=fun mp f args e=>hc ⟨mp,f,args,e⟩
  rw [PE a,PE a]
  exact Nrw h
theorem Nlt {b:Option Nat} {i:AIns} {fr:Nat->Value} {H:NB} {d:Nat} {v:Value} (h:d∉i.looks):Ti C N lim b i (upd fr d v) H=Ti C N lim b i fr H:=by
 have hw:RY N (upd fr d v) i.guard=RY N fr i.guard:=by
  cases hg:i.guard with
  | none=>rfl
  | some g=>
    obtain ⟨t,b⟩:=g
    have:t≠d:=fun e=>h (e▸Nix hg)
    simp [RY,upd,this]
 have he:∀x∈i.op.operands,ev (upd fr d v) x=ev fr x:=fun x a=>by
  cases x with
  | tmp t=>
    have:t≠d:=fun e=>h (e▸Nt1 a)
    simp [ev,upd,this]
  | _=>rfl
 unfold Ti
 rw [hw]
 cases b with
 | none=>simp only [Z5 (C:=C) (lim:=lim) he]
 | some b=>simp only [Z5 (C:=C) (lim:=lim) he]
theorem Ncn {b:Option Nat} {i:AIns} {fr fr':Nat->Value} {H:NB} {dst:Option Nat} {v:Value} (hp:XR N fr dst v=some fr') (h:∀d,dst=some d->d∉i.looks):Ti C N lim b i fr' H=Ti C N lim b i fr H:=by
 cases dst with
 | none=>cases hp;rfl
 | some d=>
   simp only [XR] at hp
   split at hp
   ·cases hp;exact Nlt (h d rfl)
   ·cases hp
theorem put_comm {fr fr1 fr2:Nat->Value} {x y:Option Nat} {v u:Value} (h1:XR N fr x v=some fr1) (h2:XR N fr1 y u=some fr2) (c:∀d,x=some d->y≠some d) :
  ∃a,XR N fr y u=some a/\XR N a x v=some fr2:=by
 cases x with
 | none=>cases h1;exact ⟨fr2,h2,rfl⟩
 | some d=>
   cases y with
   | none=>cases h2;exact ⟨fr,rfl,h1⟩
   | some e=>
     simp only [XR] at h1 h2
     split at h1
     case isFalse=>cases h1
     rename_i hd
     split at h2
     case isFalse=>cases h2
     rename_i he
     cases h1;cases h2
     refine ⟨upd fr e u,by simp [XR,he], ?_⟩
     have b:d≠e:=fun h=>c d rfl (by rw [h])
     simp only [XR,hd,if_true,Option.some.injEq]
     funext t
     simp only [upd]
     by_cases h1:t=d
     ·subst h1;simp [b]
     ·simp [h1]
theorem Y7 {H:NB} {i:Nat} {b:Blk} (h:NC H i=b) (a:b≠.dead):H[i]? = some b:=by
 unfold NC at h
 rw [Nc] at h
 cases hi:H[i]? with
 | none=>rw [hi] at h;simp at h;exact absurd h.symm a
 | some x=>rw [hi] at h;simp at h;rw [h]
theorem No8 {o:AOp} (hr:isRead o=true) {lim:Nat} {dest:Option Nat} {ρ:Operand->Value} {H c:NB} {v:Value} (k:∀(j:Nat) b,H[j]? = some b->c[j]? = some b) (h:NJ lim dest o ρ H=some (v,H)):NJ lim dest o ρ c=some (v,c):=by
 have f:∀{j:Nat} {b:Blk},b≠.dead->NC H j=b->NC c j=b:=fun {j b} d h=>by
  have:=k j _ (Y7 h d)
  unfold NC;rw [Nc,this];rfl
 have h1:∀{p:Addr} {z:Value},AM.loadCell H p=some z->AM.loadCell c p=some z:=fun {p z} a=>by
  unfold AM.loadCell at a⊢
  split at a
  ·rename_i d;rw [f (by intro e;cases e) d];exact a
  ·cases a
 have i:∀{p:Addr} {n:Nat} {z:List Value},AM.loadCells H p n=some z->AM.loadCells c p n=some z:=fun {p n z} a=>by
  unfold AM.loadCells at a⊢
  split at a
  ·rename_i d;rw [f (by intro e;cases e) d];exact a
  ·cases a
 have g:∀{m:Value} {es:List (Value×Value)},mapEntries H m=some es->mapEntries c m=some es:=fun {m es} a=>by
  unfold mapEntries at a⊢
  split at a
  ·exact a
  ·split at a
   ·rename_i d;rw [f (by intro e;cases e) d];exact a
   ·cases a
  ·cases a
 cases o<;>simp [isRead] at hr<;>simp only [NJ] at h⊢
 case load1=>
  split at h
  ·simp only [Nd,Prod.mk.injEq] at h
   obtain ⟨z,a,rfl,_⟩:=h
   rw [h1 a];rfl
  ·cases h
 case loadN=>
  split at h
  ·simp only [Nd,Prod.mk.injEq] at h
   obtain ⟨z,a,rfl,_⟩:=h
   rw [i a];rfl
  ·cases h
 case lenMap=>
  simp only [Nd,Prod.mk.injEq] at h
  obtain ⟨z,a,rfl,_⟩:=h
  rw [g a];rfl
 case lookup=>
  split at h
  ·rename_i a
   rw [g a]
   simp only
   split at h
   ·rename_i hc
    rw [Nk hc]
    split at h<;>cases h<;>rfl
   ·cases h
  ·cases h
 case b2s=>
  split at h
  ·split at h
   ·rename_i hc;cases h;rw [Nk hc]
   ·cases h
  ·split at h
   ·rename_i a
    rw [i a]
    simp only
    split at h
    ·cases h;rfl
    ·cases h
   ·cases h
  ·cases h
theorem Nlf {o:AOp} (hr:isLoad o=true) {lim:Nat} {dest:Option Nat} {ρ:Operand->Value} {A B:NB} {v:Value} (d:∀{j:Nat} {ro:Bool} {c:List Value},NC A j=.cells ro c->NC B j=.cells ro c) (h:NJ lim dest o ρ A=some (v,A)):NJ lim dest o ρ B=some (v,B):=by
 cases o<;>simp [isLoad] at hr<;>simp only [NJ] at h⊢
 case load1=>
  split at h
  ·rename_i p hp
   simp only [Nd,Prod.mk.injEq] at h
   obtain ⟨z,a,rfl,_⟩:=h
   have:AM.loadCell B p=some z:=by
    unfold AM.loadCell at a⊢
    split at a
    ·rename_i b;rw [d b];exact a
    ·cases a
   rw [this];rfl
  ·cases h
 case loadN nn oa=>
  split at h
  ·rename_i p hp
   simp only [Nd,Prod.mk.injEq] at h
   obtain ⟨z,a,rfl,_⟩:=h
   have:AM.loadCells B p nn=some z:=by
    unfold AM.loadCells at a⊢
    split at a
    ·rename_i b;rw [d b];exact a
    ·cases a
   rw [this];rfl
  ·cases h
theorem Nli {o:AOp} (hr:Y5 o=true) {lim:Nat} {dest:Option Nat} {ρ:Operand->Value} {A B:NB} {v:Value} (c:∀{j:Nat},Tw (NC A j)=true->NC B j=NC A j) (h:NJ lim dest o ρ A=some (v,A)):NJ lim dest o ρ B=some (v,B):=by
 cases o<;>simp [Y5] at hr
 rename_i n oa
 simp only [NJ] at h⊢
 split at h
 ·rename_i p hp
  split at h
  case isFalse=>cases h
  rename_i a
  have e:=c a
  simp only [Nd,Prod.mk.injEq] at h
  obtain ⟨z,b,rfl,_⟩:=h
  have:AM.loadX n B p=some z:=by
   unfold AM.loadX AM.loadCell AM.loadCells at b⊢
   rw [e];exact b
  rw [e,Nk a,this];rfl
 ·cases h
theorem Nol (U:CallOk0 C) {x y:AIns} (X:Planned x) (T:Planned y) (S:Sep x y) {fr:Nat->Value} {H H1 J:NB} {v u:Value} (hl:lim<=H.length) (Z:∀r,x.dest=some r\/y.dest=some r->base+r<H.length) (h1:Ti C N lim (some base) x fr H=some (v,H1)) (h2:Ti C N lim (some base) y fr H1=some (u,J)) :
  ∃M,Ti C N lim (some base) y fr H=some (u,M)/\Ti C N lim (some base) x fr M=some (v,J):=by
 rw [SI] at h1 h2
 cases gx:RY N fr x.guard with
 | none=>rw [gx] at h1;cases h1
 | some wx=>
 cases gy:RY N fr y.guard with
 | none=>rw [gy] at h2;cases h2
 | some wy=>
 rw [gx] at h1
 rw [gy] at h2
 cases wx with
 | false=>cases h1;exact ⟨J,by rw [SI,gy];exact h2,by rw [SI,gx]⟩
 | true=>
 cases wy with
 | false=>cases h2;exact ⟨H,by rw [SI,gy],by rw [SI,gx];exact h1⟩
 | true=>
 simp only at h1 h2
 suffices hh:∃M,PQ C lim base y (ev fr) H=some (u,M)/\PQ C lim base x (ev fr) M=some (v,J) by
  obtain ⟨M,e1,e2⟩:=hh
  exact ⟨M,by rw [SI,gy];exact e1,by rw [SI,gx];exact e2⟩
 have ak:∀{i:AIns} (hp:Planned i) (hk:kind i.op=.p) {A B:NB} {z:Value},PQ C lim base i (ev fr) A=some (z,B)->B=A/\∀D,PQ C lim base i (ev fr) D=some (z,D):=by
  intro i hp hk A B z h
  rw [Nwz hp hk] at h
  cases hg:(NJ lim (i.dest.map (base+·)) i.op (ev fr) []).map (·.1) with
  | none=>rw [hg] at h;cases h
  | some c=>rw [hg] at h;cases h;exact ⟨rfl,fun D=>by rw [Nwz hp hk,hg];rfl⟩
 by_cases a0:kind x.op=.p
 ·obtain ⟨rfl,l⟩:=ak X a0 h1
  exact ⟨J,h2,l J⟩
 by_cases a2:kind y.op=.p
 ·obtain ⟨rfl,l⟩:=ak T a2 h2
  exact ⟨H,l H,h1⟩
 have t:(((conflict (kind x.op) (kind y.op)=false\/(isL x.op=true/\isLoad y.op=true))\/(isRead x.op=true/\Nyf y.op=true))\/(isLoad x.op=true/\isMaps y.op=true))\/(Y5 x.op=true/\isRecs y.op=true):=by
  have:=S.calm
  simpa [AM.calm] using this
 rcases t with t | ⟨E,Q⟩
 case inr=>
  have kx:kind x.op=.r:=by cases X:x.op<;>rw [X] at E<;>simp [Y5] at E<;>rfl
  have aa:∀mp f args,x.op≠.call mp f args:=fun mp f args e=>by rw [e] at E;simp [Y5] at E
  have e1:=Yi U kx h1
  subst e1
  refine ⟨J,h2, ?_⟩
  have V:H1.length<=J.length:=Yj U T hl h2
  have P:∀{j:Nat},Tw (NC H1 j)=true->NC J j=NC H1 j:=fun {j} q=>by
   obtain ⟨ro,c,ad⟩:=U2 q
   have O:j<H1.length:=(List.getElem?_eq_some_iff.1 (Y7 ad (by intro e;cases e))).1
   unfold PQ at h2
   split at h2
   case h_2=>cases h2
   rename_i v1 W g
   simp only [Option.some.injEq,Prod.mk.injEq] at h2
   obtain ⟨rfl,rfl⟩:=h2
   rw [PN] at V
   by_cases G:∃i∈y.mask,base+i=j
   ·have:=Sy base H1 y.mask W G (by omega)
    unfold NC
    rw [Nc,this]
    rfl
   ·have m:∀i∈y.mask,base+i≠j:=fun i hi e=>G ⟨i,hi,e⟩
    have am:NC (OE base y.mask H1) j=NC H1 j:=by
     unfold NC
     rw [Nc,QV base y.mask _ m,<-Nc]
    have ao:VG (OE base y.mask H1) W=true:=by
     cases hyo:y.op<;>rw [hyo] at Q g<;>simp [isRecs] at Q
     rename_i mp f args
     cases mp<;>simp at Q
     simp only [QZ] at g
     split at g
     case h_2=>cases g
     exact MH g
    have:=Nf7 ao (by rw [am];exact q)
    rw [am] at this
    unfold NC at this⊢
    rw [Nc,RD base H1 y.mask W m,<-Nc]
    exact this
  have G:∀{j:Nat},Tw (NC (OE base x.mask H1) j)=true->NC (OE base x.mask J) j=NC (OE base x.mask H1) j:=fun {j} q=>by
   obtain ⟨ro,c,ad⟩:=U2 q
   have O:j<H1.length:=by
    have:=(List.getElem?_eq_some_iff.1 (Y7 ad (by intro e;cases e))).1
    rwa [PD] at this
   by_cases g:∃i∈x.mask,base+i=j
   ·have:=V4 base x.mask _ g O
    unfold NC at ad
    rw [Nc,this] at ad
    cases ad
   ·have m:∀i∈x.mask,base+i≠j:=fun i hi e=>g ⟨i,hi,e⟩
    have e1:NC (OE base x.mask H1) j=NC H1 j:=by
     unfold NC;rw [Nc,QV base x.mask _ m,<-Nc]
    have e2:NC (OE base x.mask J) j=NC J j:=by
     unfold NC;rw [Nc,QV base x.mask _ m,<-Nc]
    rw [e1] at q
    rw [e1,e2]
    exact P q
  unfold PQ at h1⊢
  rw [PE aa] at h1⊢
  split at h1
  case h_2=>cases h1
  rename_i v1 W g
  simp only [Option.some.injEq,Prod.mk.injEq] at h1
  obtain ⟨rfl,_⟩:=h1
  have:=Za kx aa g
  subst this
  rw [Nli E G g]
  simp only [Sw]
 rcases t with t | ⟨E,Q⟩
 case inr=>
  have kx:kind x.op=.r:=by cases X:x.op<;>rw [X] at E<;>simp [isLoad] at E<;>rfl
  have aa:∀mp f args,x.op≠.call mp f args:=fun mp f args e=>by rw [e] at E;simp [isLoad] at E
  have e1:=Yi U kx h1
  subst e1
  refine ⟨J,h2, ?_⟩
  have V:H1.length<=J.length:=Yj U T hl h2
  have P:∀{j:Nat} {ro:Bool} {c:List Value},NC H1 j=.cells ro c->NC J j=.cells ro c:=fun {j ro c} q=>by
   have O:j<H1.length:=(List.getElem?_eq_some_iff.1 (Y7 q (by intro e;cases e))).1
   unfold PQ at h2
   split at h2
   case h_2=>cases h2
   rename_i v1 W g
   simp only [Option.some.injEq,Prod.mk.injEq] at h2
   obtain ⟨rfl,rfl⟩:=h2
   rw [PN] at V
   by_cases G:∃i∈y.mask,base+i=j
   ·have:=Sy base H1 y.mask W G (by omega)
    unfold NC
    rw [Nc,this]
    exact q
   ·have m:∀i∈y.mask,base+i≠j:=fun i hi e=>G ⟨i,hi,e⟩
    have am:NC (OE base y.mask H1) j=.cells ro c:=by
     unfold NC
     rw [Nc,QV base y.mask _ m,<-Nc]
     exact q
    have ao:WU (OE base y.mask H1) W=true:=by
     cases hyo:y.op<;>rw [hyo] at Q g<;>simp [isMaps] at Q
     rename_i mp f args
     cases mp<;>simp at Q
     simp only [QZ] at g
     split at g
     case h_2=>cases g
     exact (Tm g).2 rfl
    have:=Nd7 ao am
    unfold NC at this⊢
    rw [Nc,RD base H1 y.mask W m,<-Nc]
    exact this
  have G:∀{j:Nat} {ro:Bool} {c:List Value},NC (OE base x.mask H1) j=.cells ro c->NC (OE base x.mask J) j=.cells ro c:=fun {j ro c} q=>by
   have O:j<H1.length:=by
    have:=(List.getElem?_eq_some_iff.1 (Y7 q (by intro e;cases e))).1
    rwa [PD] at this
   by_cases g:∃i∈x.mask,base+i=j
   ·have:=V4 base x.mask _ g O
    unfold NC at q
    rw [Nc,this] at q
    cases q
   ·have m:∀i∈x.mask,base+i≠j:=fun i hi e=>g ⟨i,hi,e⟩
    have e1:NC (OE base x.mask H1) j=NC H1 j:=by
     unfold NC;rw [Nc,QV base x.mask _ m,<-Nc]
    have e2:NC (OE base x.mask J) j=NC J j:=by
     unfold NC;rw [Nc,QV base x.mask _ m,<-Nc]
    rw [e1] at q
    rw [e2]
    exact P q
  unfold PQ at h1⊢
  rw [PE aa] at h1⊢
  split at h1
  case h_2=>cases h1
  rename_i v1 W g
  simp only [Option.some.injEq,Prod.mk.injEq] at h1
  obtain ⟨rfl,_⟩:=h1
  have:=Za kx aa g
  subst this
  rw [Nlf E G g]
  simp only [Sw]
 rcases t with t | ⟨E,Q⟩
 case inr=>
  have kx:kind x.op=.r:=by cases X:x.op<;>rw [X] at E<;>simp [isRead] at E<;>rfl
  have aa:∀mp f args,x.op≠.call mp f args:=fun mp f args e=>by rw [e] at E;simp [isRead] at E
  have e1:=Yi U kx h1
  subst e1
  refine ⟨J,h2, ?_⟩
  have V:H1.length<=J.length:=Yj U T hl h2
  have P:∀j,j<H1.length->J[j]? = H1[j]?:=fun j q=>by
   unfold PQ at h2
   split at h2
   case h_2=>cases h2
   rename_i v1 W g
   simp only [Option.some.injEq,Prod.mk.injEq] at h2
   obtain ⟨rfl,rfl⟩:=h2
   rw [PN] at V
   have hk:∀j,j<(OE base y.mask H1).length->W[j]? = (OE base y.mask H1)[j]?:=by
    cases hyo:y.op<;>rw [hyo] at Q g<;>simp [Nyf] at Q
    rename_i mp f args
    cases mp<;>simp at Q
    simp only [QZ] at g
    split at g
    case h_2=>cases g
    exact U.keep _ _ _ _ _ _ _ (Tm g).1 (Ng _)
   by_cases G:∃i∈y.mask,base+i=j
   ·rw [Sy base H1 y.mask W G (by omega),ZO q]
   ·have m:∀i∈y.mask,base+i≠j:=fun i hi e=>G ⟨i,hi,e⟩
    rw [RD base H1 y.mask W m,hk j (by rw [PD];exact q),QV base y.mask _ m]
  have G:∀(j:Nat) b,(OE base x.mask H1)[j]? = some b->(OE base x.mask J)[j]? = some b:=fun j b q=>by
   have O:j<H1.length:=by
    have:=(List.getElem?_eq_some_iff.1 q).1
    rwa [PD] at this
   by_cases g:∃i∈x.mask,base+i=j
   ·rw [V4 base x.mask _ g O] at q
    rw [V4 base x.mask _ g (by omega)];exact q
   ·have m:∀i∈x.mask,base+i≠j:=fun i hi e=>g ⟨i,hi,e⟩
    rw [QV base x.mask _ m] at q⊢
    rw [P j O];exact q
  unfold PQ at h1⊢
  rw [PE aa] at h1⊢
  split at h1
  case h_2=>cases h1
  rename_i v1 W g
  simp only [Option.some.injEq,Prod.mk.injEq] at h1
  obtain ⟨rfl,_⟩:=h1
  have:=Za kx aa g
  subst this
  rw [No8 E G g]
  simp only [Sw]
 rcases t with t | ⟨hL,ae⟩
 case inr=>
  obtain ⟨kx,mx,_⟩:=Nba hL
  have ky:kind y.op=.r:=by cases T:y.op<;>rw [T] at ae<;>simp [isLoad] at ae<;>rfl
  have e2:=Yi U ky h2
  subst e2
  refine ⟨H, ?_,h1⟩
  obtain ⟨d,hd⟩:=X.dest mx
  have ay:=S.maskY (.inl ky) d hd
  have hk:∀(j:Nat) b,b≠.dead->(OE base y.mask J)[j]? = some b->(OE base y.mask H)[j]? = some b:=by
   intro j b F q
   have V:J.length=H.length:=by
    unfold PQ at h1
    rw [PE (XV (.inr (.inr kx))),hd] at h1
    simp only [Nz] at h1
    split at h1
    case h_2=>cases h1
    rename_i v1 W g
    cases h1
    rw [PN,Xh kx g,PD]
   have O:j<J.length:=by
    have:=(List.getElem?_eq_some_iff.1 q).1
    rwa [PD] at this
   by_cases g:∃i∈y.mask,base+i=j
   ·rw [V4 base y.mask J g O] at q
    cases q;exact absurd rfl F
   ·have m:∀i∈y.mask,base+i≠j:=fun i hi e=>g ⟨i,hi,e⟩
    rw [QV base y.mask _ m] at q⊢
    unfold PQ at h1
    rw [PE (XV (.inr (.inr kx))),hd] at h1
    simp only [Nz] at h1
    split at h1
    case h_2=>cases h1
    rename_i v1 W G
    cases h1
    by_cases av:∃i∈x.mask,base+i=j
    ·rw [Sy base H x.mask W av (by rwa [PN] at O)] at q
     rw [<-q,ZO (by omega)]
    ·have an:∀i∈x.mask,base+i≠j:=fun i hi e=>av ⟨i,hi,e⟩
     rw [RD base H x.mask W an] at q
     rcases Nqm hL G j (fun e=>m d ay e.symm) with h | h
     ·rw [h,QV base x.mask _ an] at q;exact q
     ·rw [h] at q;cases q;exact absurd rfl F
  have ah:∀{j:Nat} {ro:Bool} {c:List Value},NC (OE base y.mask J) j=.cells ro c->NC (OE base y.mask H) j=.cells ro c:=fun {j ro c} h=>by
   have:=hk j _ (by intro e;cases e) (Y7 h (by intro e;cases e))
   unfold NC;rw [Nc,this];rfl
  have aq:∀mp f args,y.op≠.call mp f args:=fun mp f args e=>by rw [e] at ae;simp [isLoad] at ae
  have au:NJ lim (y.dest.map (base+·)) y.op (ev fr) (OE base y.mask H)=some (u,OE base y.mask H):=by
   unfold PQ at h2
   rw [PE aq] at h2
   split at h2
   case h_2=>cases h2
   rename_i v1 W g
   simp only [Option.some.injEq,Prod.mk.injEq] at h2
   obtain ⟨rfl,_⟩:=h2
   cases hyo:y.op<;>rw [hyo] at ae g<;>simp [isLoad] at ae
   ·simp only [NJ] at g⊢
    split at g
    ·rename_i p hp
     simp only [Nd,Prod.mk.injEq] at g
     obtain ⟨z,hz,rfl,_⟩:=g
     have:AM.loadCell (OE base y.mask H) p=some z:=by
      unfold AM.loadCell at hz⊢
      split at hz
      ·rename_i F;rw [ah F];exact hz
      ·cases hz
     rw [this];rfl
    ·cases g
   ·rename_i nn oa
    simp only [NJ] at g⊢
    split at g
    ·rename_i p hp
     simp only [Nd,Prod.mk.injEq] at g
     obtain ⟨z,hz,rfl,_⟩:=g
     have:AM.loadCells (OE base y.mask H) p nn=some z:=by
      unfold AM.loadCells at hz⊢
      split at hz
      ·rename_i F;rw [ah F];exact hz
      ·cases hz
     rw [this];rfl
    ·cases g
  unfold PQ
  rw [PE aq,au]
  simp only [Sw]
 by_cases aw:kind x.op=.s
 ·obtain ⟨r,hr⟩:=X.home (Vf aw)
  obtain ⟨b,rfl,l⟩:=Nmc X aw hr h1
  by_cases aj:kind y.op=.s
  ·obtain ⟨r',o⟩:=T.home (Vf aj)
   obtain ⟨b',rfl,I⟩:=Nmc T aj o h2
   have R:r≠r':=fun e=>S.dests r hr (by rw [o,e])
   exact ⟨_,I H (Y6 (by omega)).symm,by rw [l _ (Y6 (by omega)),List.set_comm _ _ (by omega)]⟩
  by_cases ac:kind y.op=.a
  ·obtain ⟨r',o⟩:=T.dest (Y0 ac)
   obtain ⟨b',rfl,I⟩:=Ndd T ac o h2
   have R:r≠r':=fun e=>S.dests r hr (by rw [o,e])
   exact ⟨_,I H,by rw [l _ (Y6 (by omega)),List.set_comm _ _ (by omega)]⟩
  ·have ky:kind y.op=.r\/kind y.op=.w\/kind y.op=.n\/kind y.op=.c:=by
    cases hk:kind y.op<;>simp_all
   rw [Ux U T (S.maskY ky r hr) _ _ _ hl (Z r (.inl hr))] at h2
   cases F:PQ C lim base y (ev fr) H with
   | none=>rw [F] at h2;cases h2
   | some p=>
     obtain ⟨u',M⟩:=p
     rw [F] at h2
     cases h2
     exact ⟨M,rfl,l M (Ndc U T (S.maskY ky r hr) hl (Z r (.inl hr)) F)⟩
 by_cases aj:kind y.op=.s
 ·obtain ⟨r,hr⟩:=T.home (Vf aj)
  obtain ⟨b,rfl,l⟩:=Nmc T aj hr h2
  by_cases ai:kind x.op=.a
  ·obtain ⟨r',o⟩:=X.dest (Y0 ai)
   obtain ⟨b',rfl,I⟩:=Ndd X ai o h1
   have R:r'≠r:=fun e=>S.dests r' o (by rw [hr,e])
   exact ⟨_,l H (Y6 (by omega)).symm,by rw [I,List.set_comm _ _ (by omega)]⟩
  ·have kx:kind x.op=.r\/kind x.op=.w\/kind x.op=.n\/kind x.op=.c:=by
    cases hk:kind x.op<;>simp_all
   exact ⟨_,l H (Ndc U X (S.maskX kx r hr) hl (Z r (.inr hr)) h1).symm,by rw [Ux U X (S.maskX kx r hr) _ _ _ hl (Z r (.inr hr)),h1];rfl⟩
 by_cases ai:kind x.op=.a
 ·obtain ⟨r,hr⟩:=X.dest (Y0 ai)
  obtain ⟨b,rfl,l⟩:=Ndd X ai hr h1
  by_cases ac:kind y.op=.a
  ·obtain ⟨r',o⟩:=T.dest (Y0 ac)
   obtain ⟨b',rfl,I⟩:=Ndd T ac o h2
   have R:r≠r':=fun e=>S.dests r hr (by rw [o,e])
   exact ⟨_,I H,by rw [l,List.set_comm _ _ (by omega)]⟩
  ·have ky:kind y.op=.r\/kind y.op=.w\/kind y.op=.n\/kind y.op=.c:=by
    cases hk:kind y.op<;>simp_all [conflict]
   rw [Ux U T (S.maskY ky r hr) _ _ _ hl (Z r (.inl hr))] at h2
   cases F:PQ C lim base y (ev fr) H with
   | none=>rw [F] at h2;cases h2
   | some p=>
     obtain ⟨u',M⟩:=p
     rw [F] at h2
     cases h2
     exact ⟨M,rfl,l M⟩
 by_cases ac:kind y.op=.a
 ·obtain ⟨r,hr⟩:=T.dest (Y0 ac)
  obtain ⟨b,rfl,l⟩:=Ndd T ac hr h2
  have kx:kind x.op=.r\/kind x.op=.w\/kind x.op=.n\/kind x.op=.c:=by
   cases hk:kind x.op<;>simp_all [conflict]
  exact ⟨_,l H,by rw [Ux U X (S.maskX kx r hr) _ _ _ hl (Z r (.inr hr)),h1];rfl⟩
 have two:(kind x.op=.r\/kind x.op=.n)/\(kind y.op=.r\/kind y.op=.n):=by
  cases hk:kind x.op<;>cases hk':kind y.op<;>simp_all [conflict]
 by_cases ap:kind x.op=.n\/kind y.op=.n
 ·have sx:H1=H\/∃r b,x.dest=some r/\H1=H.set (base+r) b:=by
   rcases two.1 with k | k
   ·exact .inl (Yi U k h1)
   ·obtain ⟨r,hr,h | ⟨b,h⟩⟩:=Nw0 X k h1
    ·exact .inl h
    ·exact .inr ⟨r,b,hr,h⟩
  have az:kind x.op=.r\/kind x.op=.w\/kind x.op=.n\/kind x.op=.c:=by rcases two.1 with k | k<;>simp [k]
  have a1:kind y.op=.r\/kind y.op=.w\/kind y.op=.n\/kind y.op=.c:=by rcases two.2 with k | k<;>simp [k]
  have sy:∀{A B:NB} {z:Value},PQ C lim base y (ev fr) A=some (z,B)->B=A\/∃r b,y.dest=some r/\B=A.set (base+r) b:=by
   intro A B z h
   rcases two.2 with k | k
   ·exact .inl (Yi U k h)
   ·obtain ⟨r,hr,h | ⟨b,h⟩⟩:=Nw0 T k h
    ·exact .inl h
    ·exact .inr ⟨r,b,hr,h⟩
  have later:∀{u:Value} {K:NB},PQ C lim base y (ev fr) H=some (u,K)->∃K2,PQ C lim base x (ev fr) K=some (v,K2)/\(∀r b,y.dest=some r->K=H.set (base+r) b->K2=H1.set (base+r) b)/\(K=H->K2=H1):=by
   intro u K hK
   rcases sy hK with rfl | ⟨r,b,hr,rfl⟩
   ·refine ⟨H1,h1,fun r b hr F=>?_,fun _=>rfl⟩
    rcases sx with rfl | ⟨r',b',o,rfl⟩
    ·exact F
    ·have R:r'≠r:=fun e=>S.dests r' o (by rw [hr,e])
     rw [List.set_comm _ _ (by omega),<-F]
   ·refine ⟨H1.set (base+r) b,by rw [Ux U X (S.maskX az r hr) _ _ _ hl (Z r (.inr hr)),h1];rfl,fun r' b' o F=>?_,fun F=>?_⟩
    ·rw [hr] at o;cases o
     rcases sx with rfl | ⟨Y,b2,L,rfl⟩
     ·exact F
     ·have R:Y≠r:=fun e=>S.dests Y L (by rw [hr,e])
      rw [List.set_comm _ _ (by omega),List.set_comm _ _ (by omega:base+Y≠base+r),F]
    ·rcases sx with rfl | ⟨Y,b2,L,rfl⟩
     ·exact F
     ·have R:Y≠r:=fun e=>S.dests Y L (by rw [hr,e])
      rw [List.set_comm _ _ (by omega),F]
  have a3:∃K,PQ C lim base y (ev fr) H=some (u,K)/\(∀r b,x.dest=some r->H1=H.set (base+r) b->J=K.set (base+r) b)/\(H1=H->J=K):=by
   rcases sx with rfl | ⟨r,b,hr,rfl⟩
   ·refine ⟨J,h2,fun r b hr F=>?_,fun _=>rfl⟩
    rcases sy h2 with rfl | ⟨Y,b2,L,rfl⟩
    ·exact F
    ·have R:r≠Y:=fun e=>S.dests r hr (by rw [L,e])
     rw [List.set_comm _ _ (by omega),<-F]
   ·rw [Ux U T (S.maskY a1 r hr) _ _ _ hl (Z r (.inl hr))] at h2
    cases F:PQ C lim base y (ev fr) H with
    | none=>rw [F] at h2;cases h2
    | some p=>
      obtain ⟨u',K⟩:=p
      rw [F] at h2
      cases h2
      refine ⟨K,rfl,fun r' b' o ag=>?_,fun ag=>?_⟩
      ·rw [hr] at o;cases o
       rcases sy F with rfl | ⟨Y,b2,L,rfl⟩
       ·exact ag
       ·have R:r≠Y:=fun e=>S.dests r hr (by rw [L,e])
        rw [List.set_comm _ _ (by omega),List.set_comm _ _ (by omega:base+Y≠base+r),ag]
      ·rcases sy F with rfl | ⟨Y,b2,L,rfl⟩
       ·exact ag
       ·have R:r≠Y:=fun e=>S.dests r hr (by rw [L,e])
        rw [List.set_comm _ _ (by omega),ag]
  obtain ⟨K,k1,k2,k3⟩:=a3
  obtain ⟨K2,m1,m2,m3⟩:=later k1
  refine ⟨K,k1, ?_⟩
  rw [m1]
  congr 2
  rcases sx with rfl | ⟨r,b,hr,F⟩
  ·rw [k3 rfl]
   rcases sy k1 with e | ⟨Y,b2,L,e⟩
   ·rw [m3 e,e]
   ·rw [m2 Y b2 L e,e]
  ·rw [k2 r b hr F]
   rcases sy k1 with e | ⟨Y,b2,L,e⟩
   ·rw [m3 e,F,e]
   ·have R:r≠Y:=fun e=>S.dests r hr (by rw [L,e])
    rw [m2 Y b2 L e,F,e,List.set_comm _ _ (by omega)]
 have kr:kind x.op=.r/\kind y.op=.r:=by
  rcases two with ⟨k1 | k1,k2 | k2⟩
  ·exact ⟨k1,k2⟩
  ·exact absurd (.inr k2) ap
  ·exact absurd (.inl k1) ap
  ·exact absurd (.inl k1) ap
 have e1:=Yi U kr.1 h1
 subst e1
 have e2:=Yi U kr.2 h2
 subst e2
 exact ⟨_,h2,h1⟩
theorem Nvp (w:CallOk0 C) {x y:AIns} (z:Planned x) (A:Planned y) (m:Sep x y) {fr fr1 f:Nat->Value} {H H1 l:NB} (hl:lim<=H.length) (k:∀r,x.dest=some r\/y.dest=some r->base+r<H.length) (h1:TJ C N lim (some base) x fr H=some (fr1,H1)) (h2:TJ C N lim (some base) y fr1 H1=some (f,l)) :
  ∃b c,TJ C N lim (some base) y fr H=some (b,c)/\TJ C N lim (some base) x b c=some (f,l):=by
 have a:=m.apart
 unfold MN at a
 have o:∀d,x.dst=some d->d∉y.looks:=fun d e=>by rw [e] at a;simp at a;exact a.1.1
 have q:∀d,x.dst=some d->y.dst≠some d:=fun d e=>by rw [e] at a;simp at a;exact a.1.2
 have s:∀d,y.dst=some d->d∉x.looks:=fun d e=>by rw [e] at a;simp at a;exact a.2
 unfold TJ at h1 h2
 cases hv:Ti C N lim (some base) x fr H with
 | none=>rw [hv] at h1;cases h1
 | some p=>
 obtain ⟨v,n⟩:=p
 rw [hv] at h1
 simp only [Nd,Prod.mk.injEq] at h1
 obtain ⟨f1,g,rfl,rfl⟩:=h1
 rw [Ncn g o] at h2
 cases hu:Ti C N lim (some base) y fr n with
 | none=>rw [hu] at h2;cases h2
 | some p=>
 obtain ⟨u,B⟩:=p
 rw [hu] at h2
 simp only [Nd,Prod.mk.injEq] at h2
 obtain ⟨f2,j,rfl,rfl⟩:=h2
 obtain ⟨h,e1,e2⟩:=Nol w z A m hl k hv hu
 obtain ⟨i,g1,t⟩:=put_comm g j q
 refine ⟨i,h,by simp only [TJ,e1,g1];rfl, ?_⟩
 unfold TJ
 rw [Ncn g1 s,e2]
 simp [t]
def Yg (C:TZ) (N lim:Nat) (base:Option Nat):List AIns->(Nat->Value)->NB->Option ((Nat->Value)×NB)
 | [],fr,H=>some (fr,H)
 | i::l,fr,H=>match TJ C N lim base i fr H with
   | some (fr',H')=>Yg C N lim base l fr' H'
   | none=>none
theorem WS {b:Option Nat} {i:AIns} {l:List AIns} {fr:Nat->Value} {H:NB} {r} (h:Yg C N lim b (i::l) fr H=some r):∃fr' H',TJ C N lim b i fr H=some (fr',H')/\Yg C N lim b l fr' H'=some r:=by
 simp only [Yg] at h
 split at h
 ·rename_i fr' H' h1;exact ⟨fr',H',h1,h⟩
 ·cases h
theorem Nyi (a:CallOk0 C) {i:AIns} (hp:Planned i) {fr fr':Nat->Value} {H H':NB} (hl:lim<=H.length) (h:TJ C N lim (some base) i fr H=some (fr',H')):H.length<=H'.length:=by
 unfold TJ at h
 cases hv:Ti C N lim (some base) i fr H with
 | none=>rw [hv] at h;cases h
 | some p=>
   obtain ⟨v,K⟩:=p
   rw [hv] at h
   simp only [Nd,Prod.mk.injEq] at h
   obtain ⟨f,c,rfl,rfl⟩:=h
   rw [SI] at hv
   cases hw:RY N fr i.guard with
   | none=>rw [hw] at hv;cases hv
   | some b=>
     rw [hw] at hv
     cases b with
     | false=>cases hv;exact Ng _
     | true=>exact Yj a hp hl hv
theorem Nwx (d:CallOk0 C) {x:AIns} (i:Planned x) (B:List AIns):∀(A:List AIns) (fr:Nat->Value) (H:NB) (r),lim<=H.length->(∀r,x.dest=some r->base+r<H.length)->(∀a∈A,(Planned a/\Sep a x)/\∀r,a.dest=some r->base+r<H.length)->Yg C N lim (some base) (A++x::B) fr H=some r->
  Yg C N lim (some base) (x::(A++B)) fr H=some r
 | [],fr,H,r,_,_,_,h=>h
 | a::A,fr,H,r,hl,c,hA,h=>by
   obtain ⟨fr1,H1,h1,h2⟩:=WS h
   obtain ⟨⟨pa,sa⟩,k⟩:=hA a Nm
   have g:=Nyi d pa hl h1
   have ih:=Nwx d i B A fr1 H1 r (by omega) (fun r hr=>by have:=c r hr;omega) (fun b f=>⟨(hA b (Nh _ f)).1,fun r hr=>by have:=(hA b (Nh _ f)).2 r hr;omega⟩) h2
   obtain ⟨l,o,m,n⟩:=WS ih
   obtain ⟨e,j,e1,e2⟩:=Nvp d pa i sa hl (fun r hr=>by rcases hr with hr | hr;exact k r hr;exact c r hr) h1 m
   simp only [Oc,Yg,e1,e2]
   exact n
end
structure Grow (lim:Nat) (H H':NB):Prop where
 new:∀(j:Nat) b,H'[j]? = some b->alive b=true->H[j]? = some b\/(owned b=true/\lim<=j)
 keep:∀j,j<lim->H'[j]? = H[j]?
instance {lim:Nat} {H H':NB}:CoeFun (Grow lim H H') (fun _=>∀(j:Nat) b,H'[j]? = some b->alive b=true->H[j]? = some b\/(owned b=true/\lim<=j)):=⟨Grow.new⟩
theorem Grow.refl (lim:Nat) (H:NB):Grow lim H H:=⟨fun _ _ h _=>.inl h,fun _ _=>rfl⟩
theorem Grow.trans {lim:Nat} {A B C:NB} (h:Grow lim A B) (k:Grow lim B C):Grow lim A C:=⟨fun j b d a=>by
 rcases k.new j b d a with h1 | h1
 ·exact h.new j b h1 a
 ·exact .inr h1,fun j c=>(k.keep j c).trans (h.keep j c)⟩
theorem Grow.weaken {lim lim':Nat} {A B:NB} (h:Grow lim' A B) (hl:lim<=lim'):Grow lim A B:=⟨fun j b c a=>(h.new j b c a).imp id fun h=>⟨h.1,by omega⟩,fun j d=>h.keep j (by omega)⟩
theorem Grow.set {lim:Nat} {H:NB} {i:Nat} {b:Blk} (hl:lim<=i) (d:alive b=true->owned b=true):Grow lim H (H.set i b):=⟨fun j c hc a=>by
 rw [Oh] at hc
 split at hc
 ·rename_i e
  split at hc
  ·cases hc;exact .inr ⟨d a,e▸hl⟩
  ·cases hc
 ·exact .inl hc,fun j f=>by rw [Oh,Nf (by omega)]⟩
theorem Grow.app {lim:Nat} {H X:NB} (hl:lim<=H.length) (d:∀b∈X,alive b=true->owned b=true):Grow lim H (H++X):=⟨fun j c hc e=>by
 by_cases a:j<H.length
 ·rw [Od a] at hc;exact .inl hc
 ·rw [Og (by omega)] at hc
  exact .inr ⟨d c (Ok hc) e,by omega⟩,fun j a=>Od (by omega)⟩
theorem Grow.place {lim:Nat} {H:NB} {dest:Option Nat} {b:Blk} (a:owned b=true) (hd:∀d,dest=some d->lim<=d) (hl:lim<=H.length):Grow lim H (place dest b H).2:=by
 cases dest with
 | some d=>exact Grow.set (hd d rfl) fun _=>a
 | none=>exact Grow.app hl fun c hc _=>by simp at hc;subst hc;exact a
theorem Grow.dead {lim:Nat} {H:NB} (hl:lim<=H.length) (n:Nat):Grow lim H (H++List.replicate n .dead):=
 Grow.app hl fun b c a=>by rw [(List.mem_replicate.1 c).2] at a;simp [alive] at a
theorem U1 {lim:Nat} {H H':NB} {a:Addr} {vs:List Value} (h:storeAt lim H a vs=some H'):Grow lim H H':=by
 unfold storeAt at h
 split at h
 ·split at h
  ·rename_i hc;cases h;exact Grow.set hc.1 fun _=>rfl
  ·cases h
 ·cases h
theorem Ndo {o:AOp} (g:isL o=false) {lim:Nat} {dest:Option Nat} {ρ:Operand->Value} {H H':NB} {v:Value} (hn:kind o≠.n) (h:NJ lim dest o ρ H=some (v,H')) (hd:∀d,dest=some d->lim<=d) (hl:lim<=H.length):Grow lim H H':=by
 cases hk:kind o with
 | n=>exact absurd hk hn
 | p=>rw [(Nvh hk h).1];exact Grow.refl _ _
 | r=>
   by_cases hc:∃mp f args,o=.call mp f args
   ·obtain ⟨mp,f,args,rfl⟩:=hc;simp [NJ] at h
   ·rw [Za hk (fun mp f args e=>hc ⟨mp,f,args,e⟩) h];exact Grow.refl _ _
 | c=>
   cases o<;>simp [kind] at hk
   simp [NJ] at h
 | a=>
   cases o<;>simp [kind] at hk<;>simp only [NJ] at h
   case alloc=>cases h;exact Grow.place (b:=.cells false _) rfl hd hl
   case box=>
    split at h
    case isFalse=>cases h
    cases h;exact Grow.place (b:=.cells false _) rfl hd hl
   case buildSlice=>
    split at h
    case h_2=>cases h
    cases h;exact Grow.place (b:=.cells false _) rfl hd hl
   case makeSlice=>
    split at h
    case h_2=>cases h
    split at h
    case isFalse=>cases h
    cases h;exact Grow.place (b:=.cells false _) rfl hd hl
   case growNil=>
    split at h
    case h_2=>cases h
    split at h
    case isFalse=>cases h
    cases h;exact Grow.place (b:=.cells false _) rfl hd hl
   case makeMap=>
    split at h
    case h_2=>cases h
    cases h;exact Grow.place (b:=.map []) rfl hd hl
   case call mp f args=>split at hk<;>cases hk
 | s=>
   have i:=Vf hk
   cases o<;>simp [Zb] at i
   rename_i n a x
   have h':=Wj h
   simp only [Zx,NJ] at h'
   split at h'
   ·split at h'
    ·simp only [Nd,Prod.mk.injEq] at h';obtain ⟨_,h1,_,rfl⟩:=h';exact U1 h1
    ·cases h'
   ·cases h'
 | w=>
   cases o<;>simp [kind] at hk<;>simp only [NJ] at h
   case store=>
    split at h
    ·split at h
     ·simp only [Nd,Prod.mk.injEq] at h;obtain ⟨_,h1,_,rfl⟩:=h;exact U1 h1
     ·cases h
    ·cases h
   case append=>
    unfold OW at h
    split at h
    case h_2=>cases h
    split at h
    ·cases h
    split at h
    ·cases h;exact Grow.refl _ _
    split at h
    ·split at h
     ·cases h;exact Grow.place (b:=.cells false _) rfl hd hl
     ·cases h
    ·split at h
     ·cases h
     split at h
     ·split at h
      ·split at h
       ·cases h
        exact (Grow.set (b:=.dead) ‹lim<=_› fun h=>by simp [alive] at h).trans (Grow.place (b:=.cells false _) rfl hd (by simpa using hl))
       ·cases h
      ·cases h
     ·split at h
      ·split at h
       ·split at h
        ·rename_i h1;cases h;exact U1 h1
        ·cases h
       ·cases h;exact Grow.place (b:=.cells false _) rfl hd hl
      ·cases h
   case copy=>
    split at h
    ·split at h
     ·split at h
      ·split at h
       ·cases h;exact Grow.refl _ _
       ·simp only [Nd,Prod.mk.injEq] at h;obtain ⟨_,h1,_,rfl⟩:=h;exact U1 h1
      ·split at h
       ·cases h;exact Grow.refl _ _
       ·cases h
     ·cases h
    ·cases h
   case mapUpdate=>
    split at h
    ·split at h
     ·split at h
      ·rename_i hc
       split at h<;>cases h
       ·exact Grow.set hc.2 fun _=>rfl
       ·exact Grow.set hc.2 fun _=>rfl
      ·cases h
     ·cases h
    ·cases h
   case clear=>
    split at h
    ·split at h
     ·cases h;exact Grow.refl _ _
     ·simp only [Nd,Prod.mk.injEq] at h;obtain ⟨_,h1,_,rfl⟩:=h;exact U1 h1
    ·cases h
   case delete=>cases h
   case call mp f args=>split at hk<;>cases hk
   case appendL=>simp [isL] at g
theorem Nfq {o:AOp} {lim:Nat} {dest:Option Nat} {ρ:Operand->Value} {H H':NB} {v:Value} (hn:kind o≠.n) (h:NJ lim dest o ρ H=some (v,H')) (hd:∀d,dest=some d->lim<=d) (hl:lim<=H.length):Grow lim H H':=by
 cases hL:isL o with
 | false=>exact Ndo hL hn h hd hl
 | true=>obtain ⟨_,_,h1,h2,_⟩:=Nba hL;exact Ndo h1 (by rw [h2];simp) (Wj h) hd hl
theorem Ndp {o:AOp} {lim:Nat} {dest:Option Nat} {ρ:Operand->Value} {H H':NB} {v:Value} (h:NJ lim dest o ρ H=some (v,H')) (hd:∀d,dest=some d->lim<=d) (hl:lim<=H.length):Grow lim H H':=by
 by_cases hn:kind o=.n
 ·cases o<;>(try (simp [kind] at hn;done))
  ·exact Nfq (by simp [Zx,kind]) (Wj h) hd hl
  ·rename_i mp f as'
   cases mp<;>simp [kind,CM.isPure] at hn
 ·exact Nfq hn h hd hl
def VV (Pg:Prg) (W:Nat->Prop) (lim:Nat) (σ:PT) (H:NB) (v:Value) (H':NB) (w:World):Ending->World->Prop:=fun e w'=>
 ∃v' a,e=.returned v'/\VRel a v v'/\Inv Pg W lim a H' w'/\Stp W w w'/\PT.le σ a/\∀j,a j≠σ j->H.length<=j
def TB (r:Loop) (args:Array Value):Array Value:=(r.params.zip args).foldl (fun tmps (t,a)=>tmps.setIfInBounds t a) r.tmps
structure CallOk (Pg:Prg) (C:TZ):Prop extends CallOk0 C where
 fn:∀mp lim g as H v H',C mp lim (.inl g) as H=some (v,H')->∃fn,Pg.P.funcs[g]? = some fn/\fn.body.isSome=true/\(fn.name == "runtime.NumGoroutine")=false
 calls:∀mp lim g as H v H',C mp lim (.inl g) as H=some (v,H')->lim<=H.length->∀W σ w as',Inv Pg W lim σ H w->OV σ as as'->Calls Pg.P g as'.toArray w (VV Pg W lim σ H v H' w)
 rounds:∀mp lim i as H v H',C mp lim (.inr i) as H=some (v,H')->lim<=H.length->∀W σ w as' L,Inv Pg W lim σ H w->OV σ as as'->σ i=some L->
  ∃r,w.heap[L.blk]? = some (.loop r)/\as'.toArray.size=r.params.size/\RoundIn Fence.wide 0 Pg.P L.blk r.fn (TB r as'.toArray) r.assign r.body w (VV Pg W lim σ H v H' w)
 grow:∀mp lim g as H v H',C mp lim g as H=some (v,H')->lim<=H.length->Grow lim H H'
def WF (ro:Option Nat):Fence:={ Fence.wide with round:=ro }
theorem Zv {ro:Option Nat}:(WF ro).depth.isSome=true->1<=0:=fun h=>by cases h
theorem Nc4 {ro:Option Nat} {n:Nat} {P:Program} {f:FuncId} {args:Array Value} {w:World} {R:Ending->World->Prop} (h:Calls P f args w R):CallsIn (WF ro) n P f args w R:=
 ⟨trivial,(callsIn_wide (n:=n).2 h).2⟩
theorem Nb8 {ro:Option Nat} {n m:Nat} {P:Program} {l:Nat} {f:FuncId} {tmps:Array Value} {assign body:Code} {w:World} {R:Ending->World->Prop} (h:RoundIn Fence.wide m P l f tmps assign body w R):RoundIn (WF ro) n P l f tmps assign body w R:=
 ⟨trivial,fun c cs _=>h.2 c cs (room_wide _)⟩
section
variable {P:Program} {pf pureF:FuncId->Bool} {C:TZ} {W:Nat->Prop} {lim:Nat} {σ:PT} {H H':NB} {w:World} {dest:Option Nat}
def Mh (Pp:Prg) (W:Nat->Prop) (lim:Nat) (σ:PT) (dest:Option Nat) (H:NB) (w:World) (v:Value) (H':NB) (v':Value) (w':World) (a:PT):Prop:=
 VRel a v v'/\Inv Pp W lim a H' w'/\Stp W w w'/\PT.le σ a/\(∀j,a j≠σ j->dest=some j\/H.length<=j)/\H.length<=H'.length/\Grow lim H H'
theorem Nc7 {ρ':Operand->Value} {o:Oper} {c:Call} (ho:o.op=.call c) {f:Operand} (hc:c.callee=.value f) {g:FuncId} {fi ca:Array Value} (hf:ρ' f=.func (.func g) fi ca)
  {fn:Func} (h1:P.funcs[g]? = some fn) (h2:fn.body.isSome=true) (h3:(fn.name == "runtime.NumGoroutine")=false) :
  (execOp ρ' o).run P w=.ok (.enter g (fi++c.args.map ρ'++ca)) w:=by
 have hb:fn.body.isNone=false:=by cases h:fn.body<;>simp_all
 have h3':¬(fn.name= "runtime.NumGoroutine"):=by simpa using h3
 simp [execOp,ho,resolve,hc,Deferred.ofValue,hf,invoke,callFunc,h1,h3']
 intro h;rw [h] at h2;cases h2
theorem VRel.yld_left {i:Nat} {a ca:Array Value} {v':Value} (h:VRel σ (.func (.yield i) a ca) v'):∃L,σ i=some L/\a=#[]/\ca=#[]/\v'=.func (.yield L.blk) #[] #[]:=by
 cases h with
 | atom h=>simp [AM.atom] at h
 | yld h=>exact ⟨_,h,rfl,rfl,rfl⟩
theorem Nc6 {ρ':Operand->Value} {o:Oper} {c:Call} (ho:o.op=.call c) {f:Operand} (hc:c.callee=.value f) {l:Nat} (a:ρ' f=.func (.yield l) #[] #[])
  {r:Loop} (h1:w.heap[l]? = some (.loop r)) (h2:(c.args.map ρ').size=r.params.size) :
  (execOp ρ' o).run P w=.ok (.round l r.fn (TB r (c.args.map ρ')) r.assign r.body) w:=by
 have:=run_yield (P:=P) h1 h2
 simp [execOp,ho,resolve,hc,Deferred.ofValue,a,invoke]
 simpa [TB] using this
theorem CM.lim_le (mp:CM) (hl:lim<=H.length):lim<=mp.lim lim H/\mp.lim lim H<=H.length:=by cases mp<;>simp [CM.lim,hl]
theorem Inv.up {Pp:Prg} {lim':Nat} (h:Inv Pp W lim σ H w) (hl:lim<=lim'):Inv Pp W lim' σ H w:=⟨h.blk,h.inj,fun i b L c ho d a=>h.wr i b L c ho (by omega) a,h.fresh,h.dom⟩
theorem Inv.back {Pp:Prg} {lim':Nat} {e:PT} {w':World} (a:Inv Pp W lim σ H w) (h:Inv Pp W lim' e H' w') (c:PT.le σ e) (k:Grow lim' H H'):Inv Pp W lim e H' w':=
 ⟨h.blk,h.inj,fun i b L j ho d g=>(k.new i b j (PP ho)).elim (fun h1=>by
  obtain ⟨L0,h2,_⟩:=a.blk i b h1 (PP ho)
  have f:=c _ _ h2
  rw [g] at f;cases f
  exact a.wr i b L h1 ho d h2) (fun h1=>h.wr i b L j ho h1.2 g),h.fresh,h.dom⟩
theorem Nbt (D:CallOk (Prg.mk P pf) C) {R:Bool} {o:Oper} {O y:AOp} (k:Mm P pureF R o=some y) (S:O=y\/∃m f as,O=.call m f as/\y=.call .any f as) (t:Inv (Prg.mk P pf) W lim σ H w) (hl:lim<=H.length) (ad:∀d,dest=some d->lim<=d) (hd:∀d,dest=some d->d<H.length/\σ d=none)
  {ρ:Operand->Value} {a:Act} (hρ:∀x,PX x=true->VRel σ (ρ x) (a.eval x)) {v:Value} (hx:QZ C lim dest O ρ H=some (v,H'))
  {K:Act->World->Prop} {Q:Exit->Act->World->Prop} (hK:∀v' w' N,Mh (Prg.mk P pf) W lim σ dest H w v H' v' w' N->K (a.put o.dst v') w') {ro:Option Nat}:o.wpIn (WF ro) 0 P a w K Q:=by
 by_cases A:∃mp f args,O=.call mp f args
 ·obtain ⟨mp,f,args,rfl⟩:=A
  obtain ⟨Z,rfl⟩:∃Z,y=.call Z f args:=by
   rcases S with h | ⟨m',f',as',h,h'⟩
   ·exact ⟨mp,h.symm⟩
   ·cases h;exact ⟨.any,h'⟩
  have ah:∃c,o.op=.call c/\c.callee=.value f/\args=c.args.toList/\∀x∈o.op.operands,PX x=true:=by
   obtain ⟨dst,op,type,pos,after,guard⟩:=o
   unfold Mm at k
   split at k
   ·cases k
   rename_i V
   simp only [Bool.not_eq_true,Bool.not_eq_false'] at V
   have u:∀x∈op.operands,PX x=true:=fun x hx=>Nna (o:=⟨dst,op,type,pos,after,guard⟩) (by simpa using V) hx
   cases op<;>(try simp only at k)<;>try (cases k;done)
   case call c=>
    refine ⟨c,rfl, ?_⟩
    cases hc:c.callee with
    | value f'=>rw [hc] at k;simp at k;obtain ⟨_,rfl,rfl⟩:=k;exact ⟨rfl,rfl,u⟩
    | invoke r m=>rw [hc] at k;simp at k
    | builtin b=>
      rw [hc] at k
      exfalso
      cases b<;>(try simp only at k)<;>(try (cases k;done))<;>(repeat' (split at k))<;>first
       | (cases k;done)
       | (simp only [Nd] at k;obtain ⟨_,_,k⟩:=k;cases k;done)
       | (exfalso;simp at k;done)
       | (obtain ⟨_,_,k⟩:=OD k;obtain ⟨_,_,k⟩:=OD k;obtain ⟨_,_,k⟩:=OD k;split at k<;>cases k;done)
   all_goals exfalso
   all_goals (repeat' (first | (obtain ⟨_,_,k⟩:=OD k) | split at k))
   all_goals first
    | (cases k;done)
    | (simp only [Nd] at k;obtain ⟨_,_,k⟩:=k;cases k;done)
    | contradiction
  obtain ⟨c,ho,q,rfl,u⟩:=ah
  simp only [QZ] at hx
  split at hx
  case h_2=>cases hx
  rename_i g as n
  replace hx:=(Tm hx).1
  obtain ⟨F,l⟩:=CM.lim_le mp hl
  have p:=t.up F
  generalize mp.lim lim H=lim' at hx F l p
  generalize mp.isPure=ai at hx
  have Y:∀{ρ'},o.semAt (WF ro).round ρ'=execOp ρ' o:=fun {ρ'}=>Oper.semAt_eq _ _ _ fun c' e=>by rw [ho] at e;cases e
  refine ⟨fun _ _=>trivial, ?_⟩
  rw [Y]
  have ag:PX f=true:=u f (by rw [ho];simp [Op.operands,Call.operands,q])
  have E:=hρ f ag
  have z:OV σ (c.args.toList.map ρ) (c.args.map a.eval).toList:=by
   have:(c.args.map a.eval).toList=c.args.toList.map a.eval:=by simp
   rw [this]
   exact V5 fun x hx=>hρ x (u x (by rw [ho];simp only [Op.operands,Call.operands,q];simp at hx⊢;exact .inr hx))
  unfold NE at n
  split at n
  case h_3=>cases n
  case h_2=>
   rename_i i fi ca hf
   simp only [Option.some.injEq,Prod.mk.injEq] at n
   obtain ⟨rfl,rfl⟩:=n
   rw [hf] at E
   obtain ⟨L,hL,rfl,rfl,J⟩:=E.yld_left
   simp only [Ob,Na] at hx
   obtain ⟨r,h1,h2,h3⟩:=D.rounds _ _ _ _ _ _ _ hx l W σ w _ L p z hL
   simp only [Array.toArray_toList] at h2 h3
   rw [Nc6 (P:=P) ho q J h1 h2,Oper.uponIn_round]
   refine ⟨Zv,Nb8 (h3.mono fun en w' hp=>?_)⟩
   obtain ⟨v',N,rfl,q1,q2,q3,M,q5⟩:=hp
   exact hK v' w' N ⟨q1,t.back q2 M (D.grow _ _ _ _ _ _ _ hx l),q3,M,fun j T=>.inr (q5 j T),D.len _ _ _ _ _ _ _ hx l,(D.grow _ _ _ _ _ _ _ hx l).weaken F⟩
  rename_i g' fi ca hf
  simp only [Option.some.injEq,Prod.mk.injEq] at n
  obtain ⟨rfl,rfl⟩:=n
  rw [hf] at E
  obtain ⟨I,G,J,ae,aa⟩:=E.func_left
  obtain ⟨fn,h1,h2,h3⟩:=D.fn _ _ _ _ _ _ _ hx
  have X:=Nc7 (P:=P) (w:=w) ho q J h1 h2 h3
  have s:=D.calls _ _ _ _ _ _ _ hx l W σ w (I.toList++(c.args.map a.eval).toList++G.toList) p ((ae.append z).append aa)
  have e:(I.toList++(c.args.map a.eval).toList++G.toList).toArray=I++c.args.map a.eval++G:=by
   apply Array.ext';simp
  rw [e] at s
  rw [X,Oper.uponIn_enter]
  refine ⟨Zv,Nc4 (s.mono fun en w' hp=>?_)⟩
  obtain ⟨v',N,rfl,q1,q2,q3,M,q5⟩:=hp
  exact hK v' w' N ⟨q1,t.back q2 M (D.grow _ _ _ _ _ _ _ hx l),q3,M,fun j T=>.inr (q5 j T),D.len _ _ _ _ _ _ _ hx l,(D.grow _ _ _ _ _ _ _ hx l).weaken F⟩
 ·have U:∀mp f args,O≠.call mp f args:=fun mp f args e=>A ⟨mp,f,args,e⟩
  obtain rfl:O=y:=by
   rcases S with h | ⟨m',f',as',h,_⟩
   ·exact h
   ·exact absurd h (U _ _ _)
  rw [PE U] at hx
  obtain ⟨nx,w',N,v',hr,hn,q1,q2,q3,M,q5,q6,q7⟩:=Nrv k t hρ hd hx
  have B:Mh (Prg.mk P pf) W lim σ dest H w v H' v' w' N:=⟨q1,q2,q3,M,fun j T=>(q5 j T).imp id (·.2),q6,Ndp hx ad hl⟩
  have ac:∀c,o.op≠.defer c:=fun c e=>by
   obtain ⟨dst,op,type,pos,after,guard⟩:=o
   simp only at e
   subst e
   unfold Mm at k
   split at k<;>simp at k
  refine ⟨fun _ _=>trivial, ?_⟩
  rw [Oper.semAt_eq _ _ _ ac,hr]
  cases nx<;>simp [Ngh] at hn
  ·subst hn;rw [Oper.uponIn_value];exact hK _ _ _ B
  ·subst hn;rw [Oper.uponIn_skip];exact hK _ _ _ B
theorem Nou (h:CallOk (Prg.mk P pf) C) {b:Bool} {o:Oper} {g:AOp} (f:Mm P pureF b o=some g) (c:Inv (Prg.mk P pf) W lim σ H w) (hl:lim<=H.length) (e:∀d,dest=some d->lim<=d) (hd:∀d,dest=some d->d<H.length/\σ d=none)
  {ρ:Operand->Value} {a:Act} (k:∀x,PX x=true->VRel σ (ρ x) (a.eval x)) {v:Value} (j:QZ C lim dest g ρ H=some (v,H'))
  {K:Act->World->Prop} {Q:Exit->Act->World->Prop} (i:∀v' w' l,Mh (Prg.mk P pf) W lim σ dest H w v H' v' w' l->K (a.put o.dst v') w') {ro:Option Nat}:o.wpIn (WF ro) 0 P a w K Q:=
 Nbt h f (.inl rfl) c hl e hd k j i
end
section
variable {P:Program} {pf pureF:FuncId->Bool} {C:TZ} {W:Nat->Prop} {lim:Nat} {σ:PT} {H H':NB} {w:World} {dest:Option Nat} {ds:List Deferred} {ro:Option Nat}
theorem Inv.mask (base:Nat):∀(l:List Nat) {H:NB},Inv (Prg.mk P pf) W lim σ H w->Inv (Prg.mk P pf) W lim σ (OE base l H) w
 | [],_,h=>h
 | i::l,H,h=>by
   simp only [OE,Qe]
   exact Inv.mask base l (h.killAny (base+i))
theorem Niu (c:Inv (Prg.mk P pf) W lim σ H w) (base:Nat) (l:List Nat) (R:∀i∈l,∀b,H[base+i]? = some b->alive b=true->owned b=true) (Q:lim<=base) :
  ∃O:Nat->Prop,Inv (Prg.mk P pf) O lim σ (OE base l H) w/\∀v g v' w' J,Mh (Prg.mk P pf) O lim σ dest (OE base l H) w v g v' w' J->Mh (Prg.mk P pf) W lim σ dest H w v (OA base l H g) v' w' J:=by
 refine ⟨fun b=>W b/\∀i∈l,∀B L,H[base+i]? = some B->alive B=true->σ (base+i)=some L->L.blk≠b, ?_, ?_⟩
 ·have G:=c.mask base l
  have get:∀(j:Nat) b,(OE base l H)[j]? = some b->alive b=true->H[j]? = some b/\∀i∈l,base+i≠j:=fun j b a o=>by
   by_cases f:∃i∈l,base+i=j
   ·have z:j<H.length:=by
     have:=(List.getElem?_eq_some_iff.1 a).1
     rw [PD] at this;exact this
    rw [V4 base l H f z] at a
    cases a;simp [alive] at o
   ·have n:∀i∈l,base+i≠j:=fun i hi e=>f ⟨i,hi,e⟩
    rw [QV base l H n] at a
    exact ⟨a,n⟩
  refine ⟨G.blk,G.inj,fun i b L a ho hl C=>⟨G.wr i b L a ho hl C,fun k s B N x q u e=>?_⟩,fun b a=>⟨G.fresh b a,fun k s B N x q u e=>?_⟩,G.dom⟩
  ·obtain ⟨h1,h2⟩:=get i b a (PP ho)
   exact c.inj i (base+k) b B L N h1 x (fun e=>h2 k s e.symm) ho q C u e.symm
  ·obtain ⟨X,h1,h2⟩:=c.blk (base+k) B x q
   rw [u] at h1;cases h1
   have:=h2.lt q
   omega
 ·rintro v g v' w' J ⟨q1,q2,q3,M,S,T,U⟩
  rw [PD] at S T
  have I:Stp W w w':=⟨q3.os,q3.tape,q3.output,q3.size,fun b a=>q3.block b fun h=>a h.1⟩
  have same:∀i L,σ i=some L->J i=some L:=M
  have get:∀(j:Nat) b,(OA base l H g)[j]? = some b->alive b=true->(H[j]? = some b/\∃i∈l,base+i=j)\/(g[j]? = some b/\∀i∈l,base+i≠j):=fun j b a o=>by
   by_cases f:∃i∈l,base+i=j
   ·have z:j<g.length:=by
     have:=(List.getElem?_eq_some_iff.1 a).1
     rw [PN] at this;exact this
    rw [Sy base H l g f z] at a
    simp only [Option.some.injEq] at a
    exact .inl ⟨Tj a o,f⟩
   ·have n:∀i∈l,base+i≠j:=fun i hi e=>f ⟨i,hi,e⟩
    rw [RD base H l g n] at a
    exact .inr ⟨a,n⟩
  have A:∀(j:Nat) b,g[j]? = some b->alive b=true->(∀i∈l,base+i≠j)->H[j]? = some b\/(owned b=true/\lim<=j):=fun j b a o f=>by
   rcases U j b a o with h | h
   ·rw [QV base l H f] at h;exact .inl h
   ·exact .inr h
  have p:∀(j:Nat) b Lj,H[j]? = some b->alive b=true->J j=some Lj->σ j=some Lj:=fun j b Lj a o f=>by
   obtain ⟨L,h1,_⟩:=c.blk j b a o
   have:=same _ _ h1
   rw [this] at f;cases f;exact h1
  refine ⟨q1,⟨fun j b a o=>?_,fun i j bi bj Li Lj K D r m d hi f=>?_,fun i b L a ho F C=>?_,fun b a=>(q2.fresh b a).1,fun j f=>q2.dom j (by rw [PN] at f;exact f)⟩,I,M,S,by rw [PN];exact T,⟨fun j b a o=>?_,fun j f=>by
   have n:∀i∈l,base+i≠j:=fun i hi e=>by omega
   rw [RD base H l g n,U.keep j f,QV base l H n]⟩⟩
  ·rcases get j b a o with ⟨h1,h2⟩ | ⟨h1,h2⟩
   ·obtain ⟨L,g1,t⟩:=c.blk j b h1 o
    refine ⟨L,same _ _ g1,t.mono M fun _=>q3.block _ fun V=>?_⟩
    obtain ⟨k,s,rfl⟩:=h2
    exact V.2 k s b L h1 o g1 rfl
   ·exact q2.blk j b h1 o
  ·rcases get i bi K (PP m) with ⟨h1,h2⟩ | ⟨h1,h2⟩
   ·have y:=p i bi Li h1 (PP m) hi
    rcases get j bj D d with ⟨g1,t⟩ | ⟨g1,t⟩
    ·exact c.inj i j bi bj Li Lj h1 g1 r m d y (p j bj Lj g1 d f)
    ·rcases A j bj g1 d t with h | h
     ·exact c.inj i j bi bj Li Lj h1 h r m d y (p j bj Lj h d f)
     ·have:=q2.wr j bj Lj g1 h.1 h.2 f
      obtain ⟨k,s,rfl⟩:=h2
      exact this.2 k s bi Li h1 (PP m) y
   ·rcases get j bj D d with ⟨g1,t⟩ | ⟨g1,t⟩
    ·have E:=p j bj Lj g1 d f
     rcases A i bi h1 (PP m) h2 with h | h
     ·exact c.inj i j bi bj Li Lj h g1 r m d (p i bi Li h (PP m) hi) E
     ·have:=q2.wr i bi Li h1 h.1 h.2 hi
      obtain ⟨k,s,rfl⟩:=t
      exact fun e=>this.2 k s bj Lj g1 d E e.symm
    ·exact q2.inj i j bi bj Li Lj h1 g1 r m d hi f
  ·rcases get i b a (PP ho) with ⟨h1,h2⟩ | ⟨h1,h2⟩
   ·exact c.wr i b L h1 ho F (p i b L h1 (PP ho) C)
   ·exact (q2.wr i b L h1 ho F C).1
  ·rcases get j b a o with ⟨h1,h2⟩ | ⟨h1,h2⟩
   ·exact .inl h1
   ·exact A j b h1 o h2
structure FrRel (ds:List Deferred) (σ:PT) (N:Nat) (fr:Nat->Value) (a:Act):Prop where
 size:N<=a.tmps.size
 defers:a.defers=ds
 val:∀t,VRel σ (fr t) (a.tmps.getD t undef)
theorem FrRel.mono {σ τ:PT} {N:Nat} {fr:Nat->Value} {a:Act} (h:FrRel ds σ N fr a) (b:PT.le σ τ):FrRel ds τ N fr a:=⟨h.size,h.defers,fun t=>(h.val t).mono b⟩
theorem FrRel.ev {σ:PT} {N:Nat} {fr:Nat->Value} {a:Act} (h:FrRel ds σ N fr a) {x:Operand} (b:PX x=true):VRel σ (ev fr x) (a.eval x):=by
 cases x with
 | tmp t=>exact h.val t
 | const v=>
   have c:atom v=true:=by simpa [PX] using b
   exact .atom c
 | func f=>exact .atom rfl
 | global g=>simp [PX] at b
theorem FrRel.put {σ:PT} {N:Nat} {fr fr':Nat->Value} {a:Act} (h:FrRel ds σ N fr a) {dst:Option Nat} {v v':Value} (b:VRel σ v v') (hp:XR N fr dst v=some fr'):FrRel ds σ N fr' (a.put dst v'):=by
 cases dst with
 | none=>cases hp;exact h
 | some d=>
   simp only [XR] at hp
   split at hp
   case isFalse=>cases hp
   rename_i hd
   cases hp
   refine ⟨by simpa [Act.put] using h.size,h.defers,fun t=>?_⟩
   simp only [Act.put,upd,N7]
   by_cases e:t=d
   ·subst e
    have:t<a.tmps.size:=by have:=h.size;omega
    rw [Nk rfl,Array.getElem?_setIfInBounds_self_of_lt this]
    exact b
   ·rw [Nf e,P5 (fun h=>e h.symm),<-N7]
    exact h.val t
theorem FrRel.wanted {σ:PT} {N:Nat} {fr:Nat->Value} {a:Act} (h:FrRel ds σ N fr a) {ops:Array Oper} {o:Oper} {g:Option (Nat×Bool)} (i:Zz ops o.guard=some g) {b:Bool} (hw:RY N fr g=some b) :
  Region.wanted o (yielded ops a.tmps)=b:=by
 unfold Zz at i
 cases ho:o.guard with
 | none=>
   rw [ho] at i;simp at i;subst i
   simp [RY] at hw;subst hw
   simp [Region.wanted,ho]
 | some p=>
   obtain ⟨j,c⟩:=p
   rw [ho] at i
   simp only at i
   split at i
   case h_2=>cases i
   rename_i t n
   simp only [Option.some.injEq] at i;subst i
   simp only [RY] at hw
   split at hw
   case isFalse=>cases hw
   rename_i m
   have l:t<a.tmps.size:=Nat.lt_of_lt_of_le m h.size
   have f:=h.val t
   rw [N7,Ol l] at f
   simp only [Pq] at f
   have q:yielded ops a.tmps j=match a.tmps[t] with | .bool b=>some b | _=>none:=by
    unfold yielded
    rw [n]
    simp only [Option.bind_some,Ol l]
    cases a.tmps[t]<;>rfl
   simp only [Region.wanted,ho,q]
   split at hw
   ·rename_i d hd
    rw [hd] at f
    rw [f.bool_left]
    simp only [Option.some.injEq] at hw
    rw [<-hw]
    simp
   ·rename_i k
    simp only [Option.some.injEq] at hw
    rw [<-hw]
    have:∀d,a.tmps[t]≠.bool d:=fun d e=>by
     rw [e] at f
     generalize fr t=x at f k
     cases f
     exact k d rfl
    cases hx:a.tmps[t]<;>first | (exact absurd hx (this _)) | simp
structure State (Pp:Prg) (ds:List Deferred) (W:Nat->Prop) (lim:Nat) (σ:PT) (N:Nat) (fr:Nat->Value) (H:NB) (a:Act) (w:World):Prop where
 fr:FrRel ds σ N fr a
 inv:Inv Pp W lim σ H w
 lim:lim<=H.length
structure Kept (σ:PT) (H:NB) (base n:Nat) (todo:List Nat):Prop where
 len:base+n<=H.length
 own:∀r,r<n->∀b,H[base+r]? = some b->alive b=true->owned b=true
 free:∀r∈todo,σ (base+r)=none
 lt:∀r∈todo,r<n
theorem Nbu {C:TZ} {o:AOp} {lim:Nat} {dest:Option Nat} {ρ:Operand->Value} {H:NB} {r} (h:QZ C lim dest o ρ H=some r):QZ C lim dest (Zx o) ρ H=some r:=by
 by_cases hc:∃mp f args,o=.call mp f args
 ·obtain ⟨mp,f,args,rfl⟩:=hc;exact h
 ·have a:∀mp f args,o≠.call mp f args:=fun mp f args e=>hc ⟨mp,f,args,e⟩
  rw [PE a] at h
  have b:∀mp f args,Zx o≠.call mp f args:=fun mp f args e=>by
   cases o<;>simp only [Zx] at e<;>first | (cases e;done) | (exact a _ _ _ e) | (split at e<;>first | (cases e;done) | (rename_i c;cases c;done) | (exact a _ _ _ e))
  rw [PE b]
  exact Wj h
theorem Ny2 (hC:CallOk (Prg.mk P pf) C) {ops:Array Oper} {j:Nat} {o:Oper} (F:ops[j]? = some o) {i0:AIns} (p:Nmq P pureF true ops o=some i0) {i:AIns} (hi:i.dst=i0.dst/\i.guard=i0.guard/\(i.op=i0.op\/Zx i.op=i0.op\/∃m f as,i.op=.call m f as/\i0.op=.call .any f as)) (U:Zb i0.op=false)
  {N base n:Nat} {fr fr':Nat->Value} {a:Act} (s:State (Prg.mk P pf) ds W lim σ N fr H a w) (O:lim<=base) {todo:List Nat} (l:Kept σ H base n todo) (E:∀r,i.made=some r->r∈todo/\r<n) (u:∀r∈i.mask,r<n)
  (k:TJ C N lim (some base) i fr H=some (fr',H')) {K:Act->World->Prop} {Q:Exit->Act->World->Prop}
  (X:∀z a' w',State (Prg.mk P pf) ds W lim z N fr' H' a' w'->Stp W w w'->PT.le σ z->Grow lim H H'->Kept z H' base n (todo.filter fun r=>i.made≠some r)->(∀j,z j≠σ j->(∃r,i.made=some r/\j=base+r)\/H.length<=j)->H.length<=H'.length->K a' w'):wpOpIn (WF ro) 0 P ops Q j K a w:=by
 obtain ⟨A,J,p⟩:=OD p
 obtain ⟨g,hg,p⟩:=OD p
 cases p
 obtain ⟨e1,e2,e3⟩:=hi
 simp only at e1 e2 e3
 unfold wpOpIn
 rw [F]
 simp only
 unfold TJ at k
 rw [SI,e2,e1] at k
 cases hw:RY N fr g with
 | none=>rw [hw] at k;cases k
 | some b=>
 rw [s.fr.wanted hg hw]
 rw [hw] at k
 cases b with
 | false=>
   simp only [Oe,if_false]
   simp only [Nd,Prod.mk.injEq] at k
   obtain ⟨f,M,rfl,rfl⟩:=k
   exact ⟨fun _ _=>trivial,X σ _ w ⟨s.fr.put (.atom rfl) M,s.inv,s.lim⟩ (Stp.refl _ _) (PT.le_refl _) (Grow.refl _ _) ⟨l.len,l.own,fun r hr=>l.free r (Pn.1 hr).1,fun r hr=>l.lt r (Pn.1 hr).1⟩ (fun j F=>absurd rfl F) (Ng _)⟩
 | true=>
   simp only [if_true]
   simp only [PQ] at k
   split at k
   case h_2=>cases k
   rename_i v H1 I
   split at I
   case h_2=>cases I
   rename_i v1 Hm c
   simp only [Option.some.injEq,Prod.mk.injEq] at I
   obtain ⟨rfl,rfl⟩:=I
   simp only [Nd,Prod.mk.injEq] at k
   obtain ⟨f,M,rfl,rfl⟩:=k
   obtain ⟨q,c,t⟩:∃q,QZ C lim (i.made.map (base+·)) q (ev fr) (OE base i.mask H)=some (v1,Hm)/\(q=A\/∃m f as,q=.call m f as/\A=.call .any f as):=by
    cases hS:Zb i.op with
    | false=>
      have y:i.made=i.dest:=by simp [AIns.made,hS]
      rw [y]
      rcases e3 with e3 | e3 | ⟨Y,V,as',e3,e4⟩
      ·exact ⟨A,by rw [e3] at c;exact c,.inl rfl⟩
      ·exact ⟨A,by rw [<-e3];exact Nbu c,.inl rfl⟩
      ·exact ⟨_,c,.inr ⟨Y,V,as',e3,e4⟩⟩
    | true=>
      have y:i.made=none:=by simp [AIns.made,hS]
      rw [y]
      rcases e3 with e3 | e3 | ⟨Y,V,as',e3,e4⟩
      ·rw [e3,U] at hS;cases hS
      ·refine ⟨A, ?_,.inl rfl⟩
       have h2:=Nbu c
       rw [e3] at h2
       generalize ad:i.op=io at hS e3
       cases io<;>simp [Zb] at hS
       simp only [Zx] at e3
       subst e3
       exact h2
      ·rw [e3] at hS;simp [Zb] at hS
   have hd:∀d,i.made.map (base+·)=some d->∃r,i.made=some r/\d=base+r/\r∈todo/\r<n:=fun d e=>by
    simp only [Nd] at e
    obtain ⟨r,hr,rfl⟩:=e
    exact ⟨r,hr,rfl,E r hr⟩
   obtain ⟨Wm,R,S⟩:=Niu (dest:=i.made.map (base+·)) s.inv base i.mask (fun r hr b L G=>l.own r (u r hr) b L G) O
   refine Nbt hC J t R (by rw [PD];exact s.lim) (fun d e=>by obtain ⟨r,_,rfl,_⟩:=hd d e;omega)
    (fun d e=>by
     obtain ⟨r,_,rfl,h1,h2⟩:=hd d e
     rw [PD]
     exact ⟨by have:=l.len;omega,l.free r h1⟩) (fun x k=>s.fr.ev k) c fun v' w' z hn=>?_
   obtain ⟨q1,q2,q3,Z,q5,q6,q7⟩:=S _ _ _ _ _ hn
   have B:∀j,z j≠σ j->(∃r,i.made=some r/\j=base+r)\/H.length<=j:=fun j F=>by
    rcases q5 j F with h | h
    ·obtain ⟨r,h1,h2,_⟩:=hd j h
     exact .inl ⟨r,h1,h2⟩
    ·exact .inr h
   refine X z _ w' ⟨(s.fr.mono Z).put q1 M,q2,by have:=s.lim;omega⟩ q3 Z q7 ⟨by have:=l.len;omega,fun r hr b L G=>?_,fun r hr=>?_,fun r hr=>l.lt r (Pn.1 hr).1⟩ B q6
   ·rcases q7 _ b L G with h | h
    ·exact l.own r hr b h G
    ·exact h.1
   ·obtain ⟨h1,h2⟩:=Pn.1 hr
    have T:i.made≠some r:=by simpa using h2
    apply Oq
    intro hc
    have D:=B (base+r) (fun e=>hc (by rw [e];exact l.free r h1))
    rcases D with ⟨r',h3,h4⟩ | h3
    ·have:r'=r:=by omega
     subst this;exact T h3
    ·have aa:=l.lt r h1;have ac:=l.len;omega
end
theorem ZI {α β:Type} {f:α->Option β}:∀{l:List α} {r:List β},l.mapM f=some r->r.length=l.length/\∀(j:Nat) x y,l[j]? = some x->r[j]? = some y->f x=some y
 | [],r,h=>by simp at h;subst h;exact ⟨rfl,fun j x y c=>by simp at c⟩
 | a::l,r,h=>by
   rw [List.mapM_cons] at h
   obtain ⟨b,g,h⟩:=OD h
   obtain ⟨i,d,h⟩:=OD h
   cases h
   obtain ⟨h1,h2⟩:=ZI d
   refine ⟨by simp [h1],fun j x y c e=>?_⟩
   cases j with
   | zero=>simp at c e;subst c e;exact g
   | succ j=>exact h2 j x y (by simpa using c) (by simpa using e)
section
variable {P:Program} {pf pureF:FuncId->Bool} {C:TZ} {W:Nat->Prop} {lim:Nat} {σ:PT} {H H':NB} {w:World} {ds:List Deferred} {ro:Option Nat}
def Nzo (Pp:Prg) (ds:List Deferred) (W:Nat->Prop) (lim:Nat) (σ:PT) (N:Nat) (fr':Nat->Value) (H H':NB) (w:World):Exit->Act->World->Prop:=fun e a' w'=>
 e=.normal/\∃a,State Pp ds W lim a N fr' H' a' w'/\Stp W w w'/\PT.le σ a/\Grow lim H H'/\(∀j,a j≠σ j->H.length<=j)/\H.length<=H'.length
theorem Zw {ops:Array Oper} {listed:Array Bool} (b:∀(i:Nat) o,ops[i]? = some o->listed.getD i false=true->∀e∈o.after.toList,Region.binds .any e=true->listed.getD e.on false=true) :
  ∀(n x a:Nat),listed.getD x false=true->waits ops n x a=true->listed.getD a false=true
 | 0,x,a,_,h=>by simp [waits] at h
 | n+1,x,a,hx,h=>by
   unfold waits at h
   split at h
   ·rename_i o ho
    obtain ⟨e,he,h2⟩:=List.any_eq_true.1 h
    simp only [N9,Bool.or_eq_true,beq_iff_eq] at h2
    have c:=b x o ho hx e he h2.1
    rcases h2.2 with h3 | h3
    ·rw [<-h3];exact c
    ·exact Zw b n e.on a c h3
   ·cases h
theorem Ncf {ops:Array Oper}:∀(l b:List Nat),Nm6 ops b l=true->∀A i B,l=A++i::B->∀o,ops[i]? = some o->∀e∈o.after.toList,Region.binds .any e=true->e.on∈b++A
 | [],b,_,A,i,B,h=>by simp at h
 | x::l,b,hk,A,i,B,h=>by
   intro o ho e he c
   simp only [Nm6,N9] at hk
   cases A with
   | nil=>
     simp only [Ob,List.cons.injEq] at h
     obtain ⟨rfl,rfl⟩:=h
     have h1:=hk.1
     rw [ho] at h1
     have:=Oi.1 h1 e he
     rw [c] at this
     simpa using this
   | cons a A=>
     simp only [Oc,List.cons.injEq] at h
     obtain ⟨rfl,h⟩:=h
     have:=Ncf l (b++[x]) hk.2 A i B h o ho e he c
     simpa using this
theorem ZF {ops:Array Oper} {L:List AIns}:∀(l b:List Nat),Na6 ops L b l=true->∀A i B,l=A++i::B->∀j∈b++A,Nkt ops L i j=true
 | [],b,_,A,i,B,h=>by simp at h
 | x::l,b,hk,A,i,B,h=>by
   intro j c
   simp only [Na6,N9] at hk
   cases A with
   | nil=>
     simp only [Ob,List.cons.injEq] at h
     obtain ⟨rfl,rfl⟩:=h
     exact Oi.1 hk.1 j (by simpa using c)
   | cons a A=>
     simp only [Oc,List.cons.injEq] at h
     obtain ⟨rfl,h⟩:=h
     exact ZF l (b++[x]) hk.2 A i B h j (by simpa using c)
theorem MZ:∀{l:List Nat},nodupB l=true->l.Nodup
 | [],_=>List.nodup_nil
 | x::l,h=>by
   simp only [nodupB,N9,Bool.not_eq_true',List.contains_eq_mem,decide_eq_false_iff_not] at h
   exact List.nodup_cons.2 ⟨h.1,MZ h.2⟩
theorem MR {ops:Array Oper} {ord:List Nat} (c:∀A i B,ord=A++i::B->∀o,ops[i]? = some o->∀e∈o.after.toList,Region.binds .any e=true->e.on∈A) :
  ∀(n x a:Nat),waits ops n x a=true->∀A B,ord=A++x::B->a∈A
 | 0,x,a,h=>by simp [waits] at h
 | n+1,x,a,h=>by
   intro A B b
   unfold waits at h
   split at h
   ·rename_i o ho
    obtain ⟨e,he,h2⟩:=List.any_eq_true.1 h
    simp only [N9,Bool.or_eq_true,beq_iff_eq] at h2
    have d:=c A x B b o ho e he h2.1
    rcases h2.2 with h3 | h3
    ·rw [<-h3];exact d
    ·obtain ⟨f,g,rfl⟩:=List.append_of_mem d
     have:=MR c n e.on a h3 f (g++x::B) (by rw [b];simp)
     exact Ny _ this
   ·cases h
theorem Mt {ops:Array Oper} {listed:Array Bool} {i:Nat}:i∈Region.ready .any ops listed↔i<ops.size/\listed.getD i true=false/\∀o,ops[i]? = some o->∀e∈o.after.toList,Region.binds .any e=true->listed.getD e.on false=true:=by
 unfold Region.ready
 rw [Pn]
 simp only [List.mem_range,N9,Bool.not_eq_true']
 constructor
 ·rintro ⟨h1,h2,a⟩
  refine ⟨h1,h2,fun o ho e he b=>?_⟩
  rw [ho] at a
  simp only [Nz,Pq] at a
  rw [<-Array.all_toList] at a
  have:=Oi.1 a e he
  simpa [b] using this
 ·rintro ⟨h1,h2,a⟩
  refine ⟨h1,h2, ?_⟩
  have ho:ops[i]? = some ops[i]:=Ol h1
  rw [ho]
  simp only [Nz,Pq]
  rw [<-Array.all_toList]
  refine Oi.2 fun e he=>?_
  cases b:Region.binds .any e with
  | false=>simp
  | true=>simpa using a _ ho e he b
theorem ZB:∀(l:List AOp) (n j:Nat),(QD.go n l).length=l.length/\(∀o r,l[j]? = some o->(QD.go n l)[j]? = some r->(makes o=true->∃k,r=some k/\n<=k/\k<n+((QD.go n l).filterMap id).length)/\(makes o=false->r=none))
 | [],n,j=>⟨rfl,fun o r h=>by simp at h⟩
 | o::l,n,j=>by
   unfold QD.go
   cases hm:makes o with
   | true=>
     simp only [if_true]
     obtain ⟨h1,h2⟩:=ZB l (n+1) (j-1)
     refine ⟨by simp [h1],fun b r ho hr=>?_⟩
     cases j with
     | zero=>simp at ho hr;subst ho hr;exact ⟨fun _=>⟨n,rfl,Ng _,(by simp)⟩,(fun h=>by rw [hm] at h;cases h)⟩
     | succ j=>
       obtain ⟨g1,a⟩:=h2 b r (by simpa using ho) (by simpa using hr)
       refine ⟨fun h=>?_,a⟩
       obtain ⟨k,k1,k2,k3⟩:=g1 h
       refine ⟨k,k1,by omega, ?_⟩
       simp only [List.filterMap_cons,id,Nj]
       omega
   | false=>
     simp only [Oe,if_false]
     obtain ⟨h1,h2⟩:=ZB l n (j-1)
     refine ⟨by simp [h1],fun b r ho hr=>?_⟩
     cases j with
     | zero=>simp at ho hr;subst ho hr;exact ⟨(fun h=>by rw [hm] at h;cases h),fun _=>rfl⟩
     | succ j=>
       obtain ⟨g1,a⟩:=h2 b r (by simpa using ho) (by simpa using hr)
       refine ⟨fun h=>?_,a⟩
       obtain ⟨k,k1,k2,k3⟩:=g1 h
       exact ⟨k,k1,k2,by simpa using k3⟩
theorem WM:∀(l:List AOp) (n i j k:Nat),(QD.go n l)[i]? = some (some k)->(QD.go n l)[j]? = some (some k)->i=j/\n<=k
 | [],n,i,j,k,h,_=>by simp [QD.go] at h
 | o::l,n,i,j,k,hi,hj=>by
   unfold QD.go at hi hj
   cases hm:makes o with
   | true=>
     rw [hm] at hi hj
     simp only [if_true] at hi hj
     cases i with
     | zero=>
       cases j with
       | zero=>simp at hi;exact ⟨rfl,by omega⟩
       | succ j=>
         simp at hi hj
         have:=(WM l (n+1) j j k hj hj).2
         omega
     | succ i=>
       cases j with
       | zero=>
         simp at hi hj
         have:=(WM l (n+1) i i k hi hi).2
         omega
       | succ j=>
         simp at hi hj
         have:=WM l (n+1) i j k hi hj
         omega
   | false=>
     rw [hm] at hi hj
     simp only [Oe,if_false] at hi hj
     cases i with
     | zero=>simp at hi
     | succ i=>
       cases j with
       | zero=>simp at hj
       | succ j=>
         simp at hi hj
         have:=WM l n i j k hi hj
         omega
structure Plan (P:Program) (pureF:FuncId->Bool) (ops:Array Oper) (n:Nat) (ord:List Nat) (L:List AIns):Prop where
 len:L.length=ops.size
 mem:∀i,i∈ord↔i<ops.size
 nodup:ord.Nodup
 back:∀A i B,ord=A++i::B->∀o,ops[i]? = some o->∀e∈o.after.toList,Region.binds .any e=true->e.on∈A
 ins:∀(j:Nat) o i,ops[j]? = some o->L[j]? = some i->∃i0,Nmq P pureF true ops o=some i0/\i.dst=i0.dst/\i.guard=i0.guard/\(i.op=i0.op\/Zx i.op=i0.op\/∃m f as,i.op=.call m f as/\i0.op=.call .any f as)/\Zb i0.op=false
 planned:∀(j:Nat) i,L[j]? = some i->Planned i
 sep:∀A i B,ord=A++i::B->∀j∈A,∀x y,L[j]? = some x->L[i]? = some y->waits ops ops.size i j=false->Sep x y
 dest:∀(j:Nat) i r,L[j]? = some i->i.dest=some r->r<n
 mask:∀(j:Nat) i r,L[j]? = some i->r∈i.mask->r<n
 inj:∀(i j:Nat) x y r,L[i]? = some x->L[j]? = some y->x.made=some r->y.made=some r->i=j
theorem Nsj (i:AIns):(toL i).dst=i.dst/\(toL i).guard=i.guard/\((toL i).op=i.op\/Zx (toL i).op=i.op/\∃e b s x y,i.op=.append e b s x y/\∀f as,(toL i).op≠.call .any f as):=by
 unfold toL
 split
 ·rename_i h;exact ⟨rfl,rfl,.inr ⟨by rw [h];rfl,_,_,_,_,_,h,fun f as e=>by cases e⟩⟩
 ·exact ⟨rfl,rfl,.inl rfl⟩
theorem Nlw (l0:List AIns) (x:AIns):(fresh l0 x).dst=x.dst/\(fresh l0 x).guard=x.guard/\((fresh l0 x).op=x.op\/Zx (fresh l0 x).op=x.op/\∃e b s y z,(fresh l0 x).op=.append0 e b s y z):=by
 unfold fresh
 split
 ·rename_i a
  split
  ·exact ⟨rfl,rfl,.inr ⟨by simp only [a,Zx],_,_,_,_,_,rfl⟩⟩
  ·exact ⟨rfl,rfl,.inl rfl⟩
 ·exact ⟨rfl,rfl,.inl rfl⟩
theorem Nko (st:Bool) (l0:List AIns) (x:AIns):(XT st l0 x).dst=x.dst/\(XT st l0 x).guard=x.guard/\((XT st l0 x).op=x.op\/Zx (XT st l0 x).op=x.op/\((∃e b s y z,(XT st l0 x).op=.append0 e b s y z)\/∃n a z,(XT st l0 x).op=.storeD n a z)):=by
 obtain ⟨f1,f2,f3⟩:=Nlw l0 x
 unfold XT
 split
 ·unfold toS
  split
  ·rename_i n t z c
   split
   ·refine ⟨f1,f2,.inr ⟨?_,.inr ⟨_,_,_,rfl⟩⟩⟩
    rcases f3 with f3 | ⟨_,_,_,_,_,_,f4⟩
    ·rw [<-f3,c];rfl
    ·rw [c] at f4;cases f4
   ·exact ⟨f1,f2,f3.imp id fun h=>⟨h.1,.inl h.2⟩⟩
  ·exact ⟨f1,f2,f3.imp id fun h=>⟨h.1,.inl h.2⟩⟩
 ·exact ⟨f1,f2,f3.imp id fun h=>⟨h.1,.inl h.2⟩⟩
theorem UJ (l:List AIns) (a:List (Option Nat)) (i:AIns):(Nb1 l a i).dst=i.dst/\(Nb1 l a i).guard=i.guard/\(Nb1 l a i).op=i.op/\(Nb1 l a i).mask=i.mask:=by
 unfold Nb1
 split<;>exact ⟨rfl,rfl,rfl,rfl⟩
theorem Xb {l:List AIns} {a:List (Option Nat)} {i:AIns} (h:Zb i.op=false):Nb1 l a i=i:=by
 unfold Nb1
 rw [h];rfl
theorem Yx {ops:Array Oper} {L:List AIns} (h:N21 ops L=true) {i j:Nat} {x y:AIns} (c:L[i]? = some x) (d:L[j]? = some y) (b:i≠j) (k:waits ops ops.size i j=false) (l:waits ops ops.size j i=false) (g:Zb x.op=true) {r:Nat} (hr:x.dest=some r) :
  y.dest≠some r/\(r∈y.mask\/kind y.op=.p\/kind y.op=.a\/kind y.op=.s):=by
 have hi:=(List.getElem?_eq_some_iff.1 c).1
 have f:=(List.getElem?_eq_some_iff.1 d).1
 have:=Oi.1 h i (List.mem_range.2 hi)
 rw [c] at this
 simp only [g,Rp,Bool.false_or] at this
 replace this:=Oi.1 this j (List.mem_range.2 f)
 rw [d,k,l] at this
 simp only [hr] at this
 have e:(i == j)=false:=by simpa using b
 rw [e] at this
 simp at this
 obtain ⟨h1,h2⟩:=this
 refine ⟨h1, ?_⟩
 rcases h2 with ((h2 | h2) | h2) | h2
 ·exact .inl h2
 ·exact .inr (.inl h2)
 ·exact .inr (.inr (.inl h2))
 ·exact .inr (.inr (.inr h2))
theorem Nak {L:List AIns} {n:Nat} (h:Nvs L n=true) {j:Nat} {x:AIns} (b:L[j]? = some x) (a:Zb x.op=true):∃r,x.dest=some r/\r<n:=by
 have:=Oi.1 h x (Ok b)
 rw [a] at this
 simp only [Rp,Bool.false_or] at this
 split at this
 ·rename_i r hr;exact ⟨r,hr,by simpa using this⟩
 ·cases this
theorem Nop (i:AIns):(Nj6 P i).dst=i.dst/\(Nj6 P i).guard=i.guard/\((Nj6 P i).op=i.op\/∃m f as,(Nj6 P i).op=.call m f as/\i.op=.call .any f as):=by
 unfold Nj6
 split
 ·rename_i h
  split
  ·exact ⟨rfl,rfl,.inr ⟨_,_,_,rfl,h⟩⟩
  ·exact ⟨rfl,rfl,.inr ⟨_,_,_,rfl,h⟩⟩
 ·rename_i h;exact ⟨rfl,rfl,.inr ⟨_,_,_,rfl,h⟩⟩
 ·exact ⟨rfl,rfl,.inl rfl⟩
theorem Noo {ops:Array Oper} {l:List AIns} {k:Nat} (i:AIns):(Nhh ops l k i).dst=i.dst/\(Nhh ops l k i).guard=i.guard/\((Nhh ops l k i).op=i.op\/(Zx (Nhh ops l k i).op=i.op/\Zx i.op=i.op)\/∃m f as,(Nhh ops l k i).op=.call m f as/\i.op=.call .any f as):=by
 unfold Nhh
 split
 ·rename_i h
  split
  ·exact ⟨rfl,rfl,.inr (.inr ⟨_,_,_,rfl,h⟩)⟩
  ·exact ⟨rfl,rfl,.inl rfl⟩
 ·rename_i h
  split
  ·exact ⟨rfl,rfl,.inr (.inl ⟨by rw [h];rfl,by rw [h];rfl⟩)⟩
  ·exact ⟨rfl,rfl,.inl rfl⟩
 ·rename_i h
  split
  ·exact ⟨rfl,rfl,.inr (.inl ⟨by rw [h];rfl,by rw [h];rfl⟩)⟩
  ·exact ⟨rfl,rfl,.inl rfl⟩
 ·exact ⟨rfl,rfl,.inl rfl⟩
theorem Nan {st:Bool} {ops:Array Oper} {n:Nat} {M:List AIns} (h:WJ P pureF st ops=some (.drawn n M)):∃ord L,Plan P pureF ops n ord L/\M=ord.map fun j=>L.getD j default:=by
 unfold WJ at h
 obtain ⟨l0,a2,h⟩:=OD h
 simp only at h
 generalize E:late ops (l0.map (XT st l0))=k at h
 generalize ai:((l0.map (XT st l0)).zipIdx.map fun (i,j)=>if k=some j then toL i else i)=l2 at h
 generalize ak:(l2.zipIdx.map fun (i,j)=>if Nh1 l2 then Nhh ops l2 j i else if Zr ops l2 j then Nj6 P i else i)=l at h
 generalize bc:Nzx ops l.length (mks l) k=ord at h
 split at h
 case isFalse=>cases h
 rename_i hc
 simp only [N9] at hc
 obtain ⟨⟨⟨⟨⟨J,ag⟩,T⟩,am⟩,u⟩,C⟩:=hc
 simp only [pure,Option.some.injEq,ACode.drawn.injEq] at h
 obtain ⟨hn,hM⟩:=h
 generalize hL:(l.zipIdx.map fun (p:AIns×Nat)=>Nb1 l (QD (l.map fun x=>x.op)) (QS ops (QD (l.map fun x=>x.op)) p.2 p.1))=L at hM u C
 refine ⟨ord,L, ?_,hM.symm⟩
 obtain ⟨ae,aa⟩:=ZI a2
 have aj:l.length=ops.toList.length:=by rw [<-ak,Ou,List.length_zipIdx,<-ai,Ou,List.length_zipIdx,Ou];exact ae
 have S:∀(j:Nat) z,l2[j]? = some z->∃d,l0[j]? = some d/\z.dst=d.dst/\z.guard=d.guard/\(z.op=d.op\/(Zx z.op=d.op/\∀f as,z.op≠.call .any f as)):=fun j z O=>by
  rw [<-ai,Pw,List.getElem?_zipIdx,Pw] at O
  simp only [Nd] at O
  obtain ⟨p,⟨q,⟨d,h0,rfl⟩,rfl⟩,rfl⟩:=O
  refine ⟨d,h0, ?_⟩
  obtain ⟨f1,f2,f3⟩:=Nko st l0 d
  simp only
  split
  ·obtain ⟨t1,t2,g⟩:=Nsj (XT st l0 d)
   refine ⟨t1.trans f1,t2.trans f2, ?_⟩
   rcases g with g | ⟨g,_,_,_,_,_,t4,t5⟩
   ·rcases f3 with f3 | ⟨f3,⟨_,_,_,_,_,f4⟩ | ⟨_,_,_,f4⟩⟩
    ·exact .inl (g.trans f3)
    ·exact .inr ⟨by rw [g];exact f3,by rw [g,f4];intro _ _ h;cases h⟩
    ·exact .inr ⟨by rw [g];exact f3,by rw [g,f4];intro _ _ h;cases h⟩
   ·rcases f3 with f3 | ⟨f3,⟨_,_,_,_,_,f4⟩ | ⟨_,_,_,f4⟩⟩
    ·exact .inr ⟨g.trans f3,t5⟩
    ·rw [t4] at f4;cases f4
    ·rw [t4] at f4;cases f4
  ·refine ⟨f1,f2, ?_⟩
   rcases f3 with f3 | ⟨f3,⟨_,_,_,_,_,f4⟩ | ⟨_,_,_,f4⟩⟩
   ·exact .inl f3
   ·exact .inr ⟨f3,by rw [f4];intro _ _ h;cases h⟩
   ·exact .inr ⟨f3,by rw [f4];intro _ _ h;cases h⟩
 have Z:∀(j:Nat) z,l[j]? = some z->∃d,l0[j]? = some d/\z.dst=d.dst/\z.guard=d.guard/\(z.op=d.op\/Zx z.op=d.op\/∃m f as,z.op=.call m f as/\d.op=.call .any f as):=fun j z O=>by
  rw [<-ak,Pw,List.getElem?_zipIdx] at O
  simp only [Nd] at O
  obtain ⟨p,⟨q,hq,rfl⟩,rfl⟩:=O
  obtain ⟨d,h0,f1,f2,f3⟩:=S j q hq
  refine ⟨d,h0, ?_⟩
  simp only
  split
  ·obtain ⟨t1,t2,g⟩:=Noo (ops:=ops) (l:=l2) (k:=0+j) q
   refine ⟨t1.trans f1,t2.trans f2, ?_⟩
   rcases g with g | ⟨g,t4⟩ | ⟨m,f,as,g,t4⟩
   ·rcases f3 with f3 | f3
    ·exact .inl (g.trans f3)
    ·exact .inr (.inl (by rw [g];exact f3.1))
   ·rcases f3 with f3 | f3
    ·exact .inr (.inl (g.trans f3))
    ·exact .inr (.inl (g.trans (t4.symm.trans f3.1)))
   ·rcases f3 with f3 | f3
    ·exact .inr (.inr ⟨m,f,as,g,f3.symm.trans t4⟩)
    ·exact absurd t4 (f3.2 f as)
  split
  ·obtain ⟨t1,t2,g⟩:=Nop (P:=P) q
   refine ⟨t1.trans f1,t2.trans f2, ?_⟩
   rcases g with g | ⟨m,f,as,g,t4⟩
   ·rcases f3 with f3 | f3
    ·exact .inl (g.trans f3)
    ·exact .inr (.inl (by rw [g];exact f3.1))
   ·rcases f3 with f3 | f3
    ·exact .inr (.inr ⟨m,f,as,g,f3.symm.trans t4⟩)
    ·exact absurd t4 (f3.2 f as)
  ·exact ⟨f1,f2,f3.imp id fun h=>.inl h.1⟩
 have bb:(QD (l.map (·.op))).length=l.length:=by unfold QD;rw [(ZB _ 0 0).1];simp
 have get:∀(j:Nat) i,L[j]? = some i->∃i0,l[j]? = some i0/\i=Nb1 l (QD (l.map (·.op))) (QS ops (QD (l.map (·.op))) j i0):=fun j i hi=>by
  rw [<-hL,Pw,List.getElem?_zipIdx] at hi
  simp only [Nd] at hi
  obtain ⟨p,hp,rfl⟩:=hi
  obtain ⟨i0,h1,rfl⟩:=hp
  exact ⟨i0,h1,by simp⟩
 have rk:∀(j:Nat) i0,l[j]? = some i0->∃r,(QD (l.map (·.op)))[j]? = some r/\(makes i0.op=true->∃k,r=some k/\k<n)/\(makes i0.op=false->r=none):=fun j i0 ah=>by
  have hj:j<l.length:=(List.getElem?_eq_some_iff.1 ah).1
  have hr:(QD (l.map (·.op)))[j]? = some ((QD (l.map (·.op)))[j]'(by omega)):=Np _
  refine ⟨_,hr, ?_⟩
  have:=(ZB (l.map (·.op)) 0 j).2 i0.op _ (by simp [ah]) (show (QD.go 0 (l.map (·.op)))[j]? = _ from hr)
  refine ⟨fun F=>?_,this.2⟩
  obtain ⟨k,k1,k2,k3⟩:=this.1 F
  exact ⟨k,k1,by rw [<-hn];simpa [QD] using k3⟩
 have getD:∀(j:Nat) r,(QD (l.map (·.op)))[j]? = some r->(QD (l.map (·.op))).getD j none=r:=fun j r h=>by
  rw [Nc,h];rfl
 have lt:∀(j k:Nat),(QD (l.map (·.op))).getD j none=some k->k<n:=fun j k h=>by
  by_cases hj:j<l.length
  ·obtain ⟨r,r1,r2,r3⟩:=rk j _ (Np hj)
   rw [getD j r r1] at h
   subst h
   cases F:makes l[j].op with
   | true=>obtain ⟨k',k1,k2⟩:=r2 F;simp at k1;omega
   | false=>have:=r3 F;cases this
  ·rw [Nc,N8 (by omega)] at h;cases h
 have v:=fun A i B h=>Ncf (ops:=ops) ord [] ag A i B h
 simp only [Ob] at v
 simp only [Ns3,N9] at J
 obtain ⟨⟨a6,a8⟩,ba⟩:=J
 have I:=MZ ba
 refine ⟨by rw [<-hL];simp [aj],fun i=>⟨fun hi=>by simpa using Oi.1 a6 i hi,fun hi=>by simpa using Oi.1 a8 i (by simpa using hi)⟩,I,v,fun j o i ho hi=>?_,fun j i hi=>?_,fun A i B R j ad x y hx hy w1=>?_,fun j i r hi hr=>?_,fun j i r hi hr=>?_,fun i j x y r hx hy h1 h2=>?_⟩
 ·obtain ⟨i0,h1,rfl⟩:=get j i hi
  obtain ⟨z,O,f1,f2,f3⟩:=Z j i0 h1
  obtain ⟨g1,Q,g3,_⟩:=UJ l (QD (l.map (·.op))) (QS ops (QD (l.map (·.op))) j i0)
  refine ⟨z,aa j o z (by simpa using ho) O,by rw [g1];exact f1,by rw [Q];exact f2,by rw [g3];exact f3, ?_⟩
  have:=Oi.1 am z (Ok O)
  simpa using this
 ·have ac:=hi
  obtain ⟨i0,h1,rfl⟩:=get j i hi
  obtain ⟨r,r1,r2,r3⟩:=rk j i0 h1
  obtain ⟨g1,Q,g3,g4⟩:=UJ l (QD (l.map (·.op))) (QS ops (QD (l.map (·.op))) j i0)
  refine ⟨fun E=>?_,fun F=>?_,fun F=>(Nak C ac F).imp fun _ h=>h.1⟩
  ·rw [g3] at E
   rw [g4]
   have:¬(kind i0.op=.r\/kind i0.op=.w\/kind i0.op=.n\/kind i0.op=.c):=by
    have a1:kind i0.op=.p\/kind i0.op=.a\/kind i0.op=.s:=E
    rcases a1 with h | h | h<;>rw [h]<;>simp
   simp only [QS,Nf this]
  ·rw [g3] at F
   obtain ⟨k,k1,k2⟩:=r2 F
   have a5:Zb i0.op=false:=by
    cases h:Zb i0.op with
    | false=>rfl
    | true=>have:=(Nvn h).2;rw [show makes i0.op=true from F] at this;cases this
   rw [Xb (i:=QS ops (QD (l.map (·.op))) j i0) a5]
   exact ⟨k,by simp only [QS];rw [getD j r r1,k1]⟩
 ·have U:=hx
  have V:=hy
  obtain ⟨W,K,rfl⟩:=get j x hx
  obtain ⟨X,N,rfl⟩:=get i y hy
  obtain ⟨ao,ap,G,aq⟩:=UJ l (QD (l.map (·.op))) (QS ops (QD (l.map (·.op))) j W)
  obtain ⟨au,av,H,aw⟩:=UJ l (QD (l.map (·.op))) (QS ops (QD (l.map (·.op))) i X)
  have t:=ZF (ops:=ops) (L:=l) ord [] T A i B R j (by simpa using ad)
  unfold Nkt at t
  rw [w1,K,N] at t
  simp only [Bool.false_or,N9] at t
  have D:j≠i:=fun e=>by
   subst e
   rw [R] at I
   exact (Qa.1 I).2.2 j ad j Nm rfl
  have w2:waits ops ops.size j i=false:=by
   cases hw:waits ops ops.size j i with
   | false=>rfl
   | true=>
     exfalso
     obtain ⟨A1,A2,rfl⟩:=List.append_of_mem ad
     have:=MR v _ _ _ hw A1 (A2++i::B) (by rw [R];simp)
     rw [R] at I
     exact (Qa.1 I).2.2 i (Ny _ this) i Nm rfl
  have F:∀{a b:Nat} {a0:AIns} {r:Nat},l[a]? = some a0->a≠b->waits ops ops.size b a=false->(QD (l.map (·.op))).getD a none=some r->r∈(List.range (QD (l.map (·.op))).length).filterMap fun c=>if c≠b/\!waits ops ops.size b c then (QD (l.map (·.op))).getD c none else none:=fun {a b a0 r} ha ay hw hr=>by
   have az:a<(QD (l.map (·.op))).length:=by
    rw [bb];exact (List.getElem?_eq_some_iff.1 ha).1
   exact List.mem_filterMap.2 ⟨a,List.mem_range.2 az,by rw [Nk ⟨ay,by simpa using hw⟩];exact hr⟩
  have apart:∀{a b a' b':AIns},a.dst=a'.dst->a.guard=a'.guard->a.op=a'.op->b.dst=b'.dst->b.guard=b'.guard->b.op=b'.op->MN a' b'=true->MN a b=true:=fun {a b a' b'} e1 e2 e3 e4 e5 e6 h=>by
   unfold MN AIns.looks at h⊢
   rw [e1,e2,e3,e4,e5,e6];exact h
  have an:∀{k:Kind},k=.r\/k=.w\/k=.n\/k=.c->k=.p\/k=.a\/k=.s->False:=fun h h'=>by
   rcases h with h | h | h | h<;>rw [h] at h'<;>simp at h'
  refine ⟨apart ao ap G au av H t.1,by rw [G,H];exact t.2,fun E r hr=>?_,fun E r hr=>?_,fun r h1 h2=>?_⟩
  ·cases hS:Zb W.op with
   | true=>
     rcases (Yx u U V D w2 w1 (by rw [G];exact hS) hr).2 with h | h
     ·exact h
     ·exact (an E h).elim
   | false=>
     rw [Xb (i:=QS ops (QD (l.map (·.op))) j W) hS] at hr
     rw [H] at E
     rw [aw]
     simp only [QS] at hr E⊢
     rw [Nk E]
     exact F K D w1 hr
  ·cases hS:Zb X.op with
   | true=>
     rcases (Yx u V U (Ne.symm D) w1 w2 (by rw [H];exact hS) hr).2 with h | h
     ·exact h
     ·exact (an E h).elim
   | false=>
     rw [Xb (i:=QS ops (QD (l.map (·.op))) i X) hS] at hr
     rw [G] at E
     rw [aq]
     simp only [QS] at hr E⊢
     rw [Nk E]
     exact F N (Ne.symm D) w2 hr
  ·cases hSx:Zb W.op with
   | true=>exact (Yx u U V D w2 w1 (by rw [G];exact hSx) h1).1 h2
   | false=>
     cases hSy:Zb X.op with
     | true=>exact (Yx u V U (Ne.symm D) w1 w2 (by rw [H];exact hSy) h2).1 h1
     | false=>
       rw [Xb (i:=QS ops (QD (l.map (·.op))) j W) hSx] at h1
       rw [Xb (i:=QS ops (QD (l.map (·.op))) i X) hSy] at h2
       simp only [QS] at h1 h2
       obtain ⟨r1,g1,_⟩:=rk j W K
       obtain ⟨r2,Q,_⟩:=rk i X N
       rw [getD j r1 g1] at h1
       rw [getD i r2 Q] at h2
       subst h1 h2
       exact D (WM (l.map (·.op)) 0 j i r (by simpa [QD] using g1) (by simpa [QD] using Q)).1
 ·have ac:=hi
  obtain ⟨i0,h1,rfl⟩:=get j i hi
  obtain ⟨g1,Q,g3,g4⟩:=UJ l (QD (l.map (·.op))) (QS ops (QD (l.map (·.op))) j i0)
  cases hS:Zb i0.op with
  | true=>
    obtain ⟨r',e,a3⟩:=Nak C ac (by rw [g3];exact hS)
    rw [e] at hr;cases hr
    rw [<-hn];exact a3
  | false=>
    rw [Xb (i:=QS ops (QD (l.map (·.op))) j i0) hS] at hr
    exact lt j r hr
 ·obtain ⟨i0,h1,rfl⟩:=get j i hi
  rw [(UJ l (QD (l.map (·.op))) (QS ops (QD (l.map (·.op))) j i0)).2.2.2] at hr
  simp only [QS] at hr
  split at hr
  ·obtain ⟨c,bd,Y⟩:=List.mem_filterMap.1 hr
   split at Y
   ·exact lt c r Y
   ·cases Y
  ·simp at hr
 ·obtain ⟨W,K,rfl⟩:=get i x hx
  obtain ⟨X,N,rfl⟩:=get j y hy
  have made:∀{d:AIns} {k:Nat},(Nb1 l (QD (l.map (·.op))) (QS ops (QD (l.map (·.op))) k d)).made=some r->(QS ops (QD (l.map (·.op))) k d).dest=some r:=fun {d k} h=>by
   unfold AIns.made at h
   rw [(UJ l (QD (l.map (·.op))) (QS ops (QD (l.map (·.op))) k d)).2.2.1] at h
   cases hS:Zb d.op with
   | true=>rw [show Zb (QS ops (QD (l.map (·.op))) k d).op=true from hS] at h;cases h
   | false=>
     rw [show Zb (QS ops (QD (l.map (·.op))) k d).op=false from hS] at h
     rw [Xb (i:=QS ops (QD (l.map (·.op))) k d) hS] at h
     exact h
  replace h1:=made h1
  replace h2:=made h2
  simp only [QS] at h1 h2
  obtain ⟨r1,g1,_⟩:=rk i W K
  obtain ⟨r2,Q,_⟩:=rk j X N
  rw [getD i r1 g1] at h1
  rw [getD j r2 Q] at h2
  subst h1 h2
  exact (WM (l.map (·.op)) 0 i j r (by simpa [QD] using g1) (by simpa [QD] using Q)).1
theorem Nl2 {ops:Array Oper} {n:Nat} {M:List AIns} (h:Vw P pureF ops=some (.drawn n M)):∃ord L,Plan P pureF ops n ord L/\M=ord.map fun j=>L.getD j default:=by
 unfold Vw at h
 split at h
 ·rename_i c hc
  cases h
  exact Nan hc
 ·exact Nan h
theorem M9 {i:AIns} {r:Nat} (h:i.made=some r):i.dest=some r:=by
 unfold AIns.made at h
 split at h
 ·cases h
 ·exact h
end
section
variable {P:Program} {pf pureF:FuncId->Bool} {C:TZ} {ds:List Deferred} {ro:Option Nat}
structure Todo (ops:Array Oper) (ord:List Nat) (listed:Array Bool) (τ:List Nat):Prop where
 mem:∀i,i∈τ↔i<ops.size/\listed.getD i true=false
 sub:τ.Sublist ord
 size:listed.size=ops.size
 closed:∀(i:Nat) o,ops[i]? = some o->listed.getD i false=true->∀e∈o.after.toList,Region.binds .any e=true->listed.getD e.on false=true
theorem getD_both {listed:Array Bool} {i n:Nat} (a:listed.size=n) (hi:i<n):listed.getD i false=listed.getD i true:=by
 rw [N7,N7,Ol (by omega)]
 rfl
theorem Nfe (hC:CallOk (Prg.mk P pf) C) {ops:Array Oper} {n:Nat} {ord:List Nat} {L:List AIns} (pl:Plan P pureF ops n ord L) {N base:Nat} {Q:Exit->Act->World->Prop} (fr':Nat->Value) (H':NB) (W:Nat->Prop) (lim:Nat) (X:lim<=base) (R:PT) (H0:NB) (w0:World)
  (hQ:∀a w σ,State (Prg.mk P pf) ds W lim σ N fr' H' a w->Stp W w0 w->PT.le R σ->Grow lim H0 H'->(∀j,σ j≠R j->base<=j)->H0.length<=H'.length->Q .normal a w) :
  ∀(fuel:Nat) (listed:Array Bool) (τ:List Nat) (fr:Nat->Value) (H:NB) (a:Act) (w:World) (σ:PT),τ.length=fuel->Todo ops ord listed τ->State (Prg.mk P pf) ds W lim σ N fr H a w->Stp W w0 w->PT.le R σ->Grow lim H0 H->(∀j,σ j≠R j->base<=j)->H0.length<=H.length->
   Kept σ H base n (τ.filterMap fun i=>(L.getD i default).made)->Yg C N lim (some base) (τ.map fun i=>L.getD i default) fr H=some (fr',H')->wpAnyIn (WF ro) 0 P .any ops Q fuel listed a w
 | 0,listed,τ,fr,H,a,w,σ,hf,ht,hst,h1,h2,h3,S,h5,hk,M=>by
   have hτ:τ=[]:=List.length_eq_zero_iff.1 hf
   subst hτ
   simp [Yg] at M
   obtain ⟨rfl,rfl⟩:=M
   refine ⟨?_,hQ a w σ hst h1 h2 h3 S h5⟩
   rw [List.eq_nil_iff_forall_not_mem]
   intro i hi
   have:=Mt.1 hi
   have:=(ht.mem i).2 ⟨this.1,this.2.1⟩
   cases this
 | fuel+1,listed,τ,fr,H,a,w,σ,hf,ht,hst,h1,h2,h3,S,h5,hk,M=>by
   refine ⟨fun hr=>?_,fun i hi=>?_⟩
   ·
    exfalso
    cases τ with
    | nil=>simp at hf
    | cons t τ=>
      have ac:=(ht.mem t).1 Nm
      have:t∈Region.ready .any ops listed:=Mt.2 ⟨ac.1,ac.2,fun o ho e he g=>by
       cases hc:listed.getD e.on true with
       | true=>rw [getD_both ht.size ((pl.mem _).1 (by
         obtain ⟨F,O,c,h1,h2⟩:=List.cons_sublist_iff.1 ht.sub
         obtain ⟨u,v,rfl⟩:=List.append_of_mem h1
         have:=pl.back u t (v++O) (by rw [c];simp) o ho e he g
         rw [c];simp [this]))];exact hc
       | false=>
         exfalso
         obtain ⟨F,O,c,h1,h2⟩:=List.cons_sublist_iff.1 ht.sub
         obtain ⟨u,v,rfl⟩:=List.append_of_mem h1
         have hu:=pl.back u t (v++O) (by rw [c];simp) o ho e he g
         have ae:e.on<ops.size:=(pl.mem _).1 (by rw [c];simp [hu])
         have Y:=pl.nodup
         rw [c,Nr] at Y
         have hd:=(Qa.1 Y).2.2 e.on hu
         have z:=(ht.mem e.on).2 ⟨ae,hc⟩
         rcases Nu.1 z with h | h
         ·exact hd t (by simp) h
         ·exact hd e.on (by simp [h2.subset h]) rfl⟩
      rw [hr] at this
      cases this
   ·obtain ⟨F,O,r3⟩:=Mt.1 hi
    have V:=(ht.mem i).2 ⟨F,O⟩
    obtain ⟨A,B,rfl⟩:=List.append_of_mem V
    have ag:i<L.length:=by rw [pl.len];exact F
    have k:L[i]? = some (L.getD i default):=by rw [Nc,Np ag];rfl
    have E:∃A1 B1,ord=A1++i::B1/\A.Sublist A1:=by
     obtain ⟨F,O,h1,h2,h3⟩:=List.append_sublist_iff.1 ht.sub
     obtain ⟨s1,s2,S,h5,h6⟩:=List.cons_sublist_iff.1 h3
     obtain ⟨u,v,rfl⟩:=List.append_of_mem h5
     exact ⟨F++u,v++s2,by rw [h1,S];simp,h2.trans (List.sublist_append_left _ _)⟩
    obtain ⟨A1,B1,Z,ad⟩:=E
    have G:(A++i::B).Nodup:=ht.sub.nodup pl.nodup
    have hA:∀b∈A,Planned (L.getD b default)/\Sep (L.getD b default) (L.getD i default):=fun b g=>by
     have d:=(ht.mem b).1 (Ny _ g)
     have l:b<L.length:=by rw [pl.len];exact d.1
     have f:L[b]? = some (L.getD b default):=by rw [Nc,Np l];rfl
     refine ⟨pl.planned b _ f,pl.sep A1 i B1 Z b (ad.subset g) _ _ f k ?_⟩
     cases hw:waits ops ops.size i b with
     | false=>rfl
     | true=>
       exfalso
       have key:∀m,waits ops m i b=true->listed.getD b false=true:=by
        intro m z
        cases m with
        | zero=>simp [waits] at z
        | succ m=>
          unfold waits at z
          split at z
          ·rename_i o ho
           obtain ⟨e,he,h2⟩:=List.any_eq_true.1 z
           simp only [N9,Bool.or_eq_true,beq_iff_eq] at h2
           have U:=r3 o ho e he h2.1
           rcases h2.2 with h3 | h3
           ·rw [<-h3];exact U
           ·exact Zw ht.closed m e.on b U h3
          ·cases z
       have:=key _ hw
       rw [getD_both ht.size d.1,d.2] at this
       cases this
    have T:=Nwx (N:=N) (lim:=lim) (base:=base) hC.toCallOk0 (pl.planned i _ k) (B.map fun i=>L.getD i default) (A.map fun i=>L.getD i default) fr H _ hst.lim (fun r hr=>by have:=pl.dest i _ r k hr;have:=hk.len;omega) (fun x M=>by
     obtain ⟨b,g,rfl⟩:=List.mem_map.1 M
     refine ⟨hA b g,fun r hr=>?_⟩
     have d:=(ht.mem b).1 (Ny _ g)
     have l:b<L.length:=by rw [pl.len];exact d.1
     have f:L[b]? = some (L.getD b default):=by rw [Nc,Np l];rfl
     have:=pl.dest b _ r f hr
     have:=hk.len
     omega) (by simpa using M)
    obtain ⟨fr1,H1,am,an⟩:=WS T
    have I:ops[i]? = some ops[i]:=Ol F
    obtain ⟨i0,ak,e1,e2,e3,e4⟩:=pl.ins i _ _ I k
    refine Ny2 hC I ak ⟨e1,e2,e3⟩ e4 hst X hk (fun r hr=>⟨List.mem_filterMap.2 ⟨i,V,hr⟩,pl.dest i _ r k (M9 hr)⟩) (fun r hr=>pl.mask i _ r k hr) am fun σ' a' w' q1 q2 q3 q4 q5 q6 q7=>?_
    have s:i∉A:=fun h=>(Qa.1 G).2.2 i h i Nm rfl
    have y:i∉B:=(List.nodup_cons.1 (Qa.1 G).2.1).1
    have aa:∀j,(listed.setIfInBounds i true).getD j true=if j=i then true else listed.getD j true:=fun j=>by
     rw [N7,N7]
     by_cases p:j=i
     ·subst p
      rw [Nk rfl,Array.getElem?_setIfInBounds_self_of_lt (by rw [ht.size];exact F)];rfl
     ·rw [Nf p,P5 (fun h=>p h.symm)]
    have J:∀j,(listed.setIfInBounds i true).getD j false=if j=i then true else listed.getD j false:=fun j=>by
     rw [N7,N7]
     by_cases p:j=i
     ·subst p
      rw [Nk rfl,Array.getElem?_setIfInBounds_self_of_lt (by rw [ht.size];exact F)];rfl
     ·rw [Nf p,P5 (fun h=>p h.symm)]
    have aj:Todo ops ord (listed.setIfInBounds i true) (A++B):=by
     refine ⟨fun j=>?_, ?_,by simpa using ht.size,fun j o ho hl e he g=>?_⟩
     ·have z:=ht.mem j
      rw [aa]
      constructor
      ·intro p
       have ai:j∈A++i::B:=by
        rcases Nw.1 p with h | h
        ·exact Ny _ h
        ·exact N1 _ (Nh _ h)
       obtain ⟨g1,K⟩:=z.1 ai
       have q:j≠i:=fun e=>by
        subst e
        rcases Nw.1 p with h | h
        ·exact s h
        ·exact y h
       exact ⟨g1,by rw [Nf q];exact K⟩
      ·rintro ⟨g1,K⟩
       by_cases q:j=i
       ·rw [Nk q] at K;cases K
       ·rw [Nf q] at K
        have:=z.2 ⟨g1,K⟩
        rcases Nw.1 this with h | h
        ·exact Ny _ h
        ·rcases Nu.1 h with h | h
         ·exact absurd h q
         ·exact N1 _ h
     ·exact (List.Sublist.append_left (List.sublist_cons_self i B) A).trans ht.sub
     ·rw [J] at hl⊢
      by_cases p:j=i
      ·subst p
       have:=r3 o ho e he g
       split
       ·rfl
       ·exact this
      ·rw [Nf p] at hl
       have:=ht.closed j o ho hl e he g
       split
       ·rfl
       ·exact this
    refine Nfe hC pl fr' H' W lim X R H0 w0 hQ fuel _ (A++B) fr1 H1 a' w' σ' (by simp at hf⊢;omega) aj q1 (h1.trans q2) (PT.le_trans h2 q3) (h3.trans q4) (fun j p=>?_) (by omega) ⟨q5.len,q5.own,fun r hr=>q5.free r ?_,fun r hr=>?_⟩ (by simpa using an)
    ·apply Ns
     intro hc
     have e1:σ j=R j:=Ns fun e=>hc (S j e)
     rcases q6 j (fun e=>p (e.trans e1)) with ⟨r,_,h⟩ | h
     ·omega
     ·have:=hk.len;omega
    ·obtain ⟨b,g,D⟩:=List.mem_filterMap.1 hr
     refine Pn.2 ⟨List.mem_filterMap.2 ⟨b, ?_,D⟩, ?_⟩
     ·rcases Nw.1 g with h | h
      ·exact Ny _ h
      ·exact N1 _ (Nh _ h)
     ·simp only [ne_eq,decide_not,Bool.not_eq_true',decide_eq_false_iff_not]
      intro ah
      have d:b∈A++i::B:=by
       rcases Nw.1 g with h | h
       ·exact Ny _ h
       ·exact N1 _ (Nh _ h)
      have l:b<L.length:=by rw [pl.len];exact ((ht.mem b).1 d).1
      have f:L[b]? = some (L.getD b default):=by rw [Nc,Np l];rfl
      have:=pl.inj b i _ _ r f k D ah
      subst this
      rcases Nw.1 g with h | h
      ·exact s h
      ·exact y h
    ·obtain ⟨b,g,D⟩:=List.mem_filterMap.1 hr
     have d:b∈A++i::B:=by
      rcases Nw.1 g with h | h
      ·exact Ny _ h
      ·exact N1 _ (Nh _ h)
     have l:b<L.length:=by rw [pl.len];exact ((ht.mem b).1 d).1
     have f:L[b]? = some (L.getD b default):=by rw [Nc,Np l];rfl
     exact pl.dest b _ r f (M9 D)
end
def CLe (C a:TZ):Prop:=∀mp lim g as H r,C mp lim g as H=some r->a mp lim g as H=some r
theorem MS {C c:TZ} (h:CLe C c) {lim:Nat} {dest:Option Nat} {o:AOp} {ρ:Operand->Value} {H:NB} {r} (a:QZ C lim dest o ρ H=some r):QZ c lim dest o ρ H=some r:=by
 by_cases hc:∃mp f args,o=.call mp f args
 ·obtain ⟨mp,f,args,rfl⟩:=hc
  simp only [QZ] at a⊢
  split at a
  ·exact Nqv (fun p hp=>h _ _ _ _ _ _ hp) a
  ·cases a
 ·have b:∀mp f args,o≠.call mp f args:=fun mp f args e=>hc ⟨mp,f,args,e⟩
  rw [PE b] at a⊢
  exact a
theorem Zf {C c:TZ} (h:CLe C c) {N lim:Nat} {base:Option Nat} {i:AIns} {fr:Nat->Value} {H:NB} {r} (a:TJ C N lim base i fr H=some r):TJ c N lim base i fr H=some r:=by
 unfold TJ at a⊢
 cases hv:Ti C N lim base i fr H with
 | none=>rw [hv] at a;cases a
 | some p=>
   have:Ti c N lim base i fr H=some p:=by
    unfold Ti at hv⊢
    cases hw:RY N fr i.guard with
    | none=>rw [hw] at hv;cases hv
    | some b=>
      rw [hw] at hv
      cases b with
      | false=>exact hv
      | true=>
        cases base with
        | none=>exact MS h hv
        | some b=>
          simp only at hv⊢
          cases hs:QZ C lim (i.dest.map (b+·)) i.op (ev fr) (OE b i.mask H) with
          | none=>rw [hs] at hv;cases hv
          | some q=>rw [hs] at hv;rw [MS h hs];exact hv
   rw [hv] at a
   rw [this]
   exact a
theorem M8 {α β:Type} {f:α->Option β}:∀{l:List α} {r:List β},Nax f l=some r->∀y∈r,∃x∈l,f x=some y
 | [],r,h,y,hy=>by cases h;cases hy
 | x::l,r,h,y,hy=>by
   simp only [Nax] at h
   split at h
   ·rename_i a b c d
    cases h
    rcases Nu.1 hy with rfl | hy
    ·exact ⟨x,by simp,c⟩
    ·obtain ⟨z,g,e⟩:=M8 d y hy
     exact ⟨z,by simp [g],e⟩
   ·cases h
theorem ZJ {α β:Type} {f:α->Option β}:∀{l:List α} {r:List β},Nax f l=some r->∀x∈l,∃y∈r,f x=some y
 | [],r,h,x,hx=>by cases hx
 | z::l,r,h,x,hx=>by
   simp only [Nax] at h
   split at h
   ·rename_i a b c d
    cases h
    rcases Nu.1 hx with rfl | hx
    ·exact ⟨a,by simp,c⟩
    ·obtain ⟨y,g,e⟩:=ZJ d x hx
     exact ⟨y,by simp [g],e⟩
   ·cases h
theorem UR {α β:Type} {f:α->Option (List β)}:∀{l:List α} {r:List β},TY f l=some r->∀x∈l,∃s,f x=some s/\∀y∈s,y∈r
 | [],r,h,x,hx=>by cases hx
 | z::l,r,h,x,hx=>by
   simp only [TY] at h
   split at h
   ·rename_i a b d g
    cases h
    rcases Nu.1 hx with rfl | hx
    ·exact ⟨a,d,fun y c=>by simp [c]⟩
    ·obtain ⟨s,i,e⟩:=UR g x hx
     exact ⟨s,i,fun y c=>by simp [e y c]⟩
   ·cases h
theorem UT {α β:Type} {f:α->Option (List β)}:∀{l:List α} {r:List β},TY f l=some r->∀y∈r,∃x∈l,∃s,f x=some s/\y∈s
 | [],r,h,y,hy=>by cases h;cases hy
 | z::l,r,h,y,hy=>by
   simp only [TY] at h
   split at h
   ·rename_i a b c d
    cases h
    rcases Nw.1 hy with hy | hy
    ·exact ⟨z,by simp,a,c,hy⟩
    ·obtain ⟨x,i,s,e,g⟩:=UT d y hy
     exact ⟨x,by simp [i],s,e,g⟩
   ·cases h
theorem Xw {α β:Type} {f g:α->Option (List β)}:∀{l:List α} {r:List β},(∀x∈l,∀s,f x=some s->g x=some s)->TY f l=some r->TY g l=some r
 | [],r,_,h=>h
 | z::l,r,hfg,h=>by
   simp only [TY] at h⊢
   split at h
   ·rename_i a b c d
    rw [hfg z (by simp) a c,Xw (fun x e=>hfg x (by simp [e])) d]
    exact h
   ·cases h
theorem Ve {α:Type} {r:Option α} {L:List α} (h:one r=some L):∃x,r=some x/\L=[x]:=by
 cases r with
 | none=>cases h
 | some x=>cases h;exact ⟨x,rfl,rfl⟩
theorem SQ {α:Type} {r:Option (List α)} {x:α} (h:oneOf r=some x):r=some [x]:=by
 unfold oneOf at h
 split at h
 ·cases h;rfl
 ·cases h
def Nj3 (C a:TA):Prop:=∀mp lim g as H r,C mp lim g as H=some r->a mp lim g as H=some r
theorem Nj3.det {C a:TA} (h:Nj3 C a):CLe (det C) (det a):=fun mp lim g as H r b=>by
 unfold AM.det at b⊢
 rw [h _ _ _ _ _ _ (SQ b)]
 rfl
theorem Nka {C b:TA} (h:Nj3 C b) {lim:Nat} {o:AOp} {ρ:Operand->Value} {H:NB} {r} (a:XL C lim o ρ H=some r):XL b lim o ρ H=some r:=by
 by_cases hc:∃mp f args,o=.call mp f args
 ·obtain ⟨mp,f,args,rfl⟩:=hc
  simp only [XL] at a⊢
  split at a
  ·split at a
   ·rename_i L c
    rw [h _ _ _ _ _ _ c]
    exact a
   ·cases a
  ·cases a
 ·cases o<;>first | exact a | exact absurd ⟨_,_,_,rfl⟩ hc
theorem Nj8 {C b:TA} (h:Nj3 C b) {lim:Nat} {i:AIns} {ρ:Operand->Value} {H:NB} {r} (a:Vv C lim i ρ H=some r):Vv b lim i ρ H=some r:=by
 obtain ⟨d,g,o,c,m⟩:=i
 unfold Vv at a⊢
 cases c with
 | none=>exact Nka h a
 | some k=>exact a
theorem MC {C c:TA} (h:Nj3 C c) {N lim:Nat} {i:AIns} {fr:Nat->Value} {H:NB} {r} (a:Ze C N lim i fr H=some r):Ze c N lim i fr H=some r:=by
 unfold Ze at a⊢
 cases hw:RY N fr i.guard with
 | none=>rw [hw] at a;cases a
 | some b=>
   rw [hw] at a
   cases b with
   | false=>exact a
   | true=>
     simp only at a⊢
     split at a
     ·rename_i L d
      rw [Nj8 h d]
      exact a
     ·cases a
theorem WC {E:Env} {run b:AFunc->Nat->List AItem->(Nat->Value)->NB->Option (List (Value×NB))} (h:∀af lim k fr H r,run af lim k fr H=some r->b af lim k fr H=some r):Nj3 (QP E run) (QP E b):=by
 intro mp lim g as H r a
 unfold QP at a⊢
 cases g with
 | inr i=>
   simp only at a⊢
   split at a
   ·cases a
   rename_i c
   rw [Nf c]
   split at a
   ·split at a
    ·rename_i hc
     rw [Nk hc]
     exact h _ _ _ _ _ _ a
    ·cases a
   ·cases a
 | inl g=>
 simp only at a⊢
 split at a
 ·exact a
 ·split at a
  ·cases a
  ·rename_i af d
   split at a
   ·rename_i hp
    rw [Nk hp]
    split at a
    ·rename_i v H1 l h1
     rw [h _ _ _ _ _ _ h1]
     exact a
    ·cases a
   ·rename_i hp
    rw [Nf hp]
    split at a
    ·cases a
    ·rename_i c
     rw [Nf c]
     exact h _ _ _ _ _ _ a
theorem Nfn (E:Env):∀(n:Nat) (af:AFunc) (lim:Nat) (k:List AItem) (fr:Nat->Value) (H:NB) (r),OX E n af lim k fr H=some r->OX E (n+1) af lim k fr H=some r
 | 0,_,_,_,_,_,_,h=>by simp [OX] at h
 | n+1,af,lim,k,fr,H,r,h=>by
   have ih:=Nfn E n
   rw [OX.eq_def] at h⊢
   simp only at h⊢
   cases k with
   | nil=>exact h
   | cons x k=>
     cases x with
     | inBlock id=>exact ih _ _ _ _ _ _ h
     | inLoop c=>exact ih _ _ _ _ _ _ h
     | begin i=>
       simp only at h⊢
       split at h
       ·split at h
        ·rename_i hc
         rw [Nk hc]
         exact ih _ _ _ _ _ _ h
        ·cases h
       ·cases h
     | round i=>exact h
     | mark i=>exact h
     | ops base l=>
       have g:=WC (E:=E) fun e lim' k' fr' H' r h=>ih e lim' k' fr' H' r h
       cases l with
       | nil=>cases base<;>exact ih _ _ _ _ _ _ h
       | cons i l=>
         cases base with
         | none=>
           simp only at h⊢
           split at h
           ·rename_i L j
            rw [MC g j]
            exact Xw (fun r _ s d=>ih _ _ _ _ _ _ d) h
           ·cases h
         | some b=>
           simp only at h⊢
           split at h
           ·rename_i fr' H' j
            rw [Zf g.det j]
            exact ih _ _ _ _ _ _ h
           ·cases h
     | code c=>
       cases c<;>simp only at h⊢<;> first
        | exact ih _ _ _ _ _ _ h
        | exact h
        | skip
       case cond c a b=>
        cases hc:ev fr c<;>rw [hc] at h<;>first
         | (rename_i b;cases b<;>exact ih _ _ _ _ _ _ h)
         | (cases h;done)
       case exit id=>
        split at h
        ·exact ih _ _ _ _ _ _ h
        ·cases h
       case exitR id=>
        split at h
        ·exact ih _ _ _ _ _ _ h
        ·exact h
       case rangeF f ps a b=>
        split at h
        ·split at h
         ·rename_i L j
          rw [WC (fun e lim' k' fr' H' r h=>ih _ _ _ _ _ _ h) _ _ _ _ _ _ j]
          simp only
          refine Xw (fun r _ s d=>?_) h
          split at d
          ·rename_i x o
           split at d
           ·cases d
           ·rename_i m
            rw [Nf m]
            exact ih _ _ _ _ _ _ d
          ·cases d
         ·cases h
        ·cases h
theorem V8 (E:Env) {n m:Nat} (h:n<=m) {af:AFunc} {lim:Nat} {k:List AItem} {fr:Nat->Value} {H:NB} {r} (a:OX E n af lim k fr H=some r):OX E m af lim k fr H=some r:=by
 induction h with
 | refl=>exact a
 | step _ ih=>exact Nfn E _ _ _ _ _ _ _ ih
theorem VS (E:Env) {n m:Nat} (h:n<=m):Nj3 (QR E n) (QR E m):=WC fun _ _ _ _ _ _ a=>V8 E h a
theorem Ne4 (E:Env):∀(l:List AIns) (n:Nat) (af:AFunc) (lim b:Nat) (k:List AItem) (fr:Nat->Value) (H:NB) (r),OX E n af lim (.ops (some b) l::k) fr H=some r->
  ∃m fr' H',m<n/\Yg (det (QR E (n-1))) af.ntmps lim (some b) l fr H=some (fr',H')/\OX E m af lim k fr' H'=some r
 | l,0,af,lim,b,k,fr,H,r,h=>by simp [OX] at h
 | [],n+1,af,lim,b,k,fr,H,r,h=>by
   rw [OX.eq_def] at h
   exact ⟨n,fr,H,by omega,rfl,h⟩
 | i::l,n+1,af,lim,b,k,fr,H,r,h=>by
   rw [OX.eq_def] at h
   simp only at h
   split at h
   ·rename_i fr1 H1 e
    obtain ⟨m,fr',H',h1,h2,d⟩:=Ne4 E l n af lim b k fr1 H1 r h
    refine ⟨m,fr',H',by omega, ?_,d⟩
    have a:TJ (det (QR E (n+1-1))) af.ntmps lim (some b) i fr H=some (fr1,H1):=e
    simp only [Yg,a]
    have mono:∀(l:List AIns) (fr:Nat->Value) (H:NB) r,Yg (det (QR E (n-1))) af.ntmps lim (some b) l fr H=some r->Yg (det (QR E (n+1-1))) af.ntmps lim (some b) l fr H=some r:=by
     intro l
     induction l with
     | nil=>intro fr H r h;exact h
     | cons i l ih=>
       intro fr H r h
       obtain ⟨f,K,g1,c⟩:=WS h
       simp only [Yg,Zf (VS E (show n-1<=n+1-1 by omega)).det g1]
       exact ih _ _ _ c
    exact mono _ _ _ _ h2
   ·cases h
def X6 (C:TA) (N lim:Nat):List AIns->(Nat->Value)->NB->Option (List ((Nat->Value)×NB))
 | [],fr,H=>some [(fr,H)]
 | i::l,fr,H=>match Ze C N lim i fr H with
   | some L=>TY (fun r=>X6 C N lim l r.1 r.2) L
   | none=>none
theorem Ncy {C a:TA} (h:Nj3 C a) {N lim:Nat}:∀{l:List AIns} {fr:Nat->Value} {H:NB} {r},X6 C N lim l fr H=some r->X6 a N lim l fr H=some r
 | [],fr,H,r,hx=>hx
 | i::l,fr,H,r,hx=>by
   simp only [X6] at hx⊢
   split at hx
   ·rename_i L b
    rw [MC h b]
    exact Xw (fun x _ s c=>Ncy h c) hx
   ·cases hx
theorem Xv {α β:Type} {f:α->Option (List β)}:∀{l:List α},(∀x∈l,∃s,f x=some s)->∃r,TY f l=some r
 | [],_=>⟨[],rfl⟩
 | x::l,h=>by
   obtain ⟨s,a⟩:=h x (by simp)
   obtain ⟨r,hr⟩:=Xv (f:=f) (l:=l) fun y b=>h y (by simp [b])
   exact ⟨s++r,by simp only [TY,a,hr]⟩
theorem Ncg (E:Env):∀(l:List AIns) (n:Nat) (af:AFunc) (lim:Nat) (k:List AItem) (fr:Nat->Value) (H:NB) (R),OX E n af lim (.ops none l::k) fr H=some R->
  ∃L,X6 (QR E (n-1)) af.ntmps lim l fr H=some L/\∀r∈L,∃m b,m<n/\OX E m af lim k r.1 r.2=some b/\∀x∈b,x∈R
 | l,0,af,lim,k,fr,H,R,h=>by simp [OX] at h
 | [],n+1,af,lim,k,fr,H,R,h=>by
   rw [OX.eq_def] at h
   refine ⟨[(fr,H)],rfl,fun r hr=>?_⟩
   rw [Ni] at hr
   subst hr
   exact ⟨n,R,by omega,h,fun x o=>o⟩
 | i::l,n+1,af,lim,k,fr,H,R,h=>by
   rw [OX.eq_def] at h
   simp only at h
   split at h
   case h_2=>cases h
   rename_i L v
   have e:Ze (QR E (n+1-1)) af.ntmps lim i fr H=some L:=v
   have each:∀r∈L,∃a,X6 (QR E (n+1-1)) af.ntmps lim l r.1 r.2=some a/\∀q∈a,∃m b,m<n+1/\OX E m af lim k q.1 q.2=some b/\∀x∈b,x∈R:=fun r hr=>by
    obtain ⟨s,d,c⟩:=UR h r hr
    obtain ⟨a,h1,h2⟩:=Ncg E l n af lim k r.1 r.2 s d
    refine ⟨a,Ncy (VS E (by omega)) h1,fun q g=>?_⟩
    obtain ⟨m,b,g1,t,u⟩:=h2 q g
    exact ⟨m,b,by omega,t,fun x o=>c x (u x o)⟩
   obtain ⟨Q,p⟩:=Xv (f:=fun r:(Nat->Value)×NB=>X6 (QR E (n+1-1)) af.ntmps lim l r.1 r.2) (l:=L) fun r hr=>by
    obtain ⟨a,h1,_⟩:=each r hr
    exact ⟨a,h1⟩
   refine ⟨Q,by simp only [X6,e,p],fun q g=>?_⟩
   obtain ⟨r,hr,s,d,j⟩:=UT p q g
   obtain ⟨a,h1,h2⟩:=each r hr
   rw [h1] at d
   cases d
   exact h2 q j
theorem Nnf {α β:Type} {f:α->Option β} {l:List α} {r:List β} (h:Nax f l=some r) (hl:l≠[]):r≠[]:=by
 cases l with
 | nil=>exact absurd rfl hl
 | cons x l=>
   obtain ⟨y,a,_⟩:=ZJ h x (by simp)
   intro e;rw [e] at a;cases a
theorem Njm {α β:Type} {f:α->Option (List β)} {l:List α} {r:List β} (h:TY f l=some r) (hl:l≠[]) (b:∀x∈l,∀s,f x=some s->s≠[]):r≠[]:=by
 cases l with
 | nil=>exact absurd rfl hl
 | cons x l=>
   obtain ⟨s,c,a⟩:=UR h x (by simp)
   obtain ⟨y,d⟩:=Se _ (b x (by simp) s c)
   intro e;have:=a y d;rw [e] at this;cases this
theorem Nyk {C:TA} (d:∀mp lim g as H L,C mp lim g as H=some L->L≠[]) {N lim:Nat} {i:AIns} {fr:Nat->Value} {H:NB} {L} (h:Ze C N lim i fr H=some L):L≠[]:=by
 have b:∀{α:Type} {r:Option α} {L:List α},r.map (fun r=>[r])=some L->L≠[]:=fun {α r L} h=>by
  simp only [Nd] at h
  obtain ⟨p,_,rfl⟩:=h
  simp
 unfold Ze at h
 split at h
 ·cases h
 ·simp only [Nd] at h;obtain ⟨_,_,rfl⟩:=h;simp
 ·split at h
  case h_2=>cases h
  rename_i L0 a
  refine Nnf h ?_
  unfold Vv at a
  split at a
  ·unfold XL at a
   split at a
   ·split at a
    case h_2=>cases a
    split at a
    case h_2=>cases a
    rename_i e c
    exact Nnf a (d _ _ _ _ _ _ c)
   ·exact b a
  cases a
theorem Naq {E:Env} {run:AFunc->Nat->List AItem->(Nat->Value)->NB->Option (List (Value×NB))} (h:∀af lim k fr H L,run af lim k fr H=some L->L≠[]):∀mp lim g as H L,QP E run mp lim g as H=some L->L≠[]:=by
 intro mp lim g as H L a
 unfold QP at a
 cases g with
 | inr i=>
   simp only at a
   repeat' (split at a)
   all_goals first | (cases a;done) | exact h _ _ _ _ _ _ a
 | inl g=>
   simp only at a
   repeat' (split at a)
   all_goals first | (cases a;done) | (cases a;simp;done) | exact h _ _ _ _ _ _ a
theorem YB (E:Env):∀(n:Nat) (af:AFunc) (lim:Nat) (k:List AItem) (fr:Nat->Value) (H:NB) (L),OX E n af lim k fr H=some L->L≠[]
 | 0,_,_,_,_,_,_,h=>by simp [OX] at h
 | n+1,af,lim,k,fr,H,L,h=>by
   have ih:=YB E n
   have g:=Naq (E:=E) ih
   have d:∀{r:Option (Value×NB)},one r=some L->L≠[]:=fun h=>by obtain ⟨x,_,rfl⟩:=Ve h;simp
   rw [OX.eq_def] at h
   simp only at h
   cases k with
   | nil=>exact d h
   | cons x k=>
     cases x with
     | inBlock id=>exact ih _ _ _ _ _ _ h
     | inLoop c=>exact ih _ _ _ _ _ _ h
     | begin i=>
       simp only at h
       split at h
       ·split at h
        ·exact ih _ _ _ _ _ _ h
        ·cases h
       ·cases h
     | round i=>
       simp only at h
       split at h
       ·exact d h
       ·cases h
     | mark i=>simp at h
     | ops base l=>
       cases l with
       | nil=>cases base<;>exact ih _ _ _ _ _ _ h
       | cons i l=>
         cases base with
         | none=>
           simp only at h
           split at h
           ·rename_i L0 j
            exact Njm h (Nyk g j) fun r _ s e=>ih _ _ _ _ _ _ e
           ·cases h
         | some b=>
           simp only at h
           split at h
           ·exact ih _ _ _ _ _ _ h
           ·cases h
     | code c=>
       cases c<;>simp only at h<;>first
        | exact ih _ _ _ _ _ _ h
        | exact d h
        | skip
       case cond c a b=>
        cases hc:ev fr c<;>rw [hc] at h<;>first
         | (rename_i b;cases b<;>exact ih _ _ _ _ _ _ h)
         | (cases h;done)
       case exit id=>
        split at h
        ·exact ih _ _ _ _ _ _ h
        ·cases h
       case retM=>
        split at h
        ·exact d h
        ·cases h
       case retR=>
        split at h
        ·split at h
         ·exact d h
         ·cases h
        ·cases h
       case exitR id=>
        split at h
        ·exact ih _ _ _ _ _ _ h
        ·split at h
         ·split at h
          ·exact d h
          ·cases h
         ·cases h
       case rangeF f ps a b=>
        split at h
        ·split at h
         ·rename_i L0 j
          refine Njm h (g _ _ _ _ _ _ j) fun r _ s e=>?_
          split at e
          ·split at e
           ·cases e
           ·exact ih _ _ _ _ _ _ e
          ·cases e
         ·cases h
        ·cases h
theorem Nw7 (E:Env) {n:Nat} {mp:Bool} {lim:Nat} {g:FuncId ⊕ Nat} {as:List Value} {H:NB} {L} (h:QR E n mp lim g as H=some L):L≠[]:=Naq (YB E n) _ _ _ _ _ _ h
theorem Nfy {lim:Nat} {H H':NB} {a:Addr} {vs:List Value} (h:storeAt lim H a vs=some H'):H.length<=H'.length:=by rw [Vb h];exact Ng _
theorem VA {dest:Option Nat} {b:Blk} {H:NB}:H.length<=(place dest b H).2.length:=by
 cases dest<;>simp [place]
theorem Nfp {o:AOp} (b:isL o=false) {lim:Nat} {dest:Option Nat} {ρ:Operand->Value} {H H':NB} {v:Value} (hn:kind o≠.n) (h:NJ lim dest o ρ H=some (v,H')):H.length<=H'.length:=by
 cases hk:kind o with
 | n=>exact absurd hk hn
 | p=>rw [(Nvh hk h).1];exact Ng _
 | r=>
   by_cases hc:∃mp f args,o=.call mp f args
   ·obtain ⟨mp,f,args,rfl⟩:=hc;simp [NJ] at h
   ·rw [Za hk (fun mp f args e=>hc ⟨mp,f,args,e⟩) h];exact Ng _
 | c=>
   cases o<;>simp [kind] at hk
   simp [NJ] at h
 | a=>
   cases o<;>simp [kind] at hk<;>simp only [NJ] at h
   case alloc=>cases h;exact VA
   case box=>
    split at h
    case isFalse=>cases h
    cases h;exact VA
   case buildSlice=>
    split at h
    case h_2=>cases h
    cases h;exact VA
   case makeSlice=>
    split at h
    case h_2=>cases h
    split at h
    case isFalse=>cases h
    cases h;exact VA
   case growNil=>
    split at h
    case h_2=>cases h
    split at h
    case isFalse=>cases h
    cases h;exact VA
   case makeMap=>
    split at h
    case h_2=>cases h
    cases h;exact VA
   case call mp f args=>split at hk<;>cases hk
 | s=>
   have i:=Vf hk
   cases o<;>simp [Zb] at i
   have h':=Wj h
   simp only [Zx] at h'
   rw [XW (o:=.store _ _ _) rfl rfl h'];exact Ng _
 | w=>
   cases hm:makes o with
   | false=>rw [XW hk hm h];exact Ng _
   | true=>
     cases dest with
     | some d=>rw [Xh hk h];exact Ng _
     | none=>
       have g:∃esz bytes str s x,o=.append esz bytes str s x:=by
        cases o<;>simp [makes,kind] at hm<;>(try (simp [kind] at hk;done))
        case append=>exact ⟨_,_,_,_,_,rfl⟩
        case appendL=>simp [isL] at b
        all_goals (exfalso;simp [kind] at hk;try (split at hk<;>cases hk))
       obtain ⟨esz,bytes,str,s,x,rfl⟩:=g
       simp only [NJ] at h
       unfold OW at h
       split at h
       case h_2=>cases h
       split at h
       ·cases h
       split at h
       ·cases h;exact Ng _
       split at h
       ·split at h
        ·cases h;simp [place]
        ·cases h
       ·split at h
        ·cases h
        split at h
        ·split at h
         ·split at h
          ·cases h;simp [place]
          ·cases h
         ·cases h
        ·split at h
         ·split at h
          ·split at h
           ·rename_i h1;cases h;exact Nfy h1
           ·cases h
          ·cases h;simp [place]
         ·cases h
theorem Njy {o:AOp} {lim:Nat} {dest:Option Nat} {ρ:Operand->Value} {H H':NB} {v:Value} (hn:kind o≠.n) (h:NJ lim dest o ρ H=some (v,H')):H.length<=H'.length:=by
 cases hL:isL o with
 | false=>exact Nfp hL hn h
 | true=>obtain ⟨_,_,h1,h2,_⟩:=Nba hL;exact Nfp h1 (by rw [h2];simp) (Wj h)
theorem Nod {o:AOp} {lim:Nat} {dest:Option Nat} {ρ:Operand->Value} {H H':NB} {v:Value} (h:NJ lim dest o ρ H=some (v,H')):H.length<=H'.length:=by
 by_cases hn:kind o=.n
 ·cases o<;>(try (simp [kind] at hn;done))
  ·exact Njy (by simp [Zx,kind]) (Wj h)
  ·rename_i mp f as'
   cases mp<;>simp [kind,CM.isPure] at hn
 ·exact Njy hn h
def Ndz (C:TZ):Prop:=∀mp lim g as H v H',C mp lim g as H=some (v,H')->lim<=H.length->H.length<=H'.length/\Grow lim H H'
theorem MU {C:TZ} (i:Ndz C) {lim:Nat} {dest:Option Nat} {o:AOp} {ρ:Operand->Value} {H H':NB} {v:Value} (h:QZ C lim dest o ρ H=some (v,H')) (hd:∀d,dest=some d->lim<=d) (hl:lim<=H.length) :
  H.length<=H'.length/\Grow lim H H':=by
 by_cases hc:∃mp f args,o=.call mp f args
 ·obtain ⟨mp,f,args,rfl⟩:=hc
  simp only [QZ] at h
  split at h
  ·obtain ⟨a,b⟩:=CM.lim_le mp hl
   obtain ⟨g1,g⟩:=i _ _ _ _ _ _ _ (Tm h).1 b
   exact ⟨g1,g.weaken a⟩
  ·cases h
 ·have c:∀mp f args,o≠.call mp f args:=fun mp f args e=>hc ⟨mp,f,args,e⟩
  rw [PE c] at h
  exact ⟨Nod h,Ndp h hd hl⟩
theorem Nhe {lim base:Nat} {l:List Nat} {H X:NB} (k:lim<=base) (h:Grow lim (OE base l H) X):Grow lim H (OA base l H X):=⟨fun j b c g=>by
 by_cases d:∃i∈l,base+i=j
 ·have f:j<X.length:=by
   have:=(List.getElem?_eq_some_iff.1 c).1
   rw [PN] at this;exact this
  rw [Sy base H l X d f] at c
  simp only [Option.some.injEq] at c
  exact .inl (Tj c g)
 ·have a:∀i∈l,base+i≠j:=fun i hi e=>d ⟨i,hi,e⟩
  rw [RD base H l X a] at c
  rcases h j b c g with h1 | h1
  ·rw [QV base l H a] at h1;exact .inl h1
  ·exact .inr h1,fun j d=>by
 have a:∀i∈l,base+i≠j:=fun i hi e=>by omega
 rw [RD base H l X a,h.keep j d,QV base l H a]⟩
theorem Nco {C:TZ} (a:Ndz C) {N lim:Nat} {base:Option Nat} {i:AIns} {fr fr':Nat->Value} {H H':NB} (h:TJ C N lim base i fr H=some (fr',H')) (c:∀b,base=some b->lim<=b) (hl:lim<=H.length) :
  H.length<=H'.length/\Grow lim H H':=by
 unfold TJ at h
 cases hv:Ti C N lim base i fr H with
 | none=>rw [hv] at h;cases h
 | some p=>
   obtain ⟨v,K⟩:=p
   rw [hv] at h
   simp only [Nd,Prod.mk.injEq] at h
   obtain ⟨f,j,rfl,rfl⟩:=h
   unfold Ti at hv
   cases hw:RY N fr i.guard with
   | none=>rw [hw] at hv;cases hv
   | some b=>
     rw [hw] at hv
     cases b with
     | false=>cases hv;exact ⟨Ng _,Grow.refl _ _⟩
     | true=>
       cases base with
       | none=>exact MU a hv (fun d e=>by cases e) hl
       | some b=>
         simp only at hv
         cases hs:QZ C lim (i.dest.map (b+·)) i.op (ev fr) (OE b i.mask H) with
         | none=>rw [hs] at hv;cases hv
         | some q=>
           obtain ⟨v1,X⟩:=q
           rw [hs] at hv
           cases hv
           obtain ⟨g1,g⟩:=MU a hs (fun d e=>by
            simp only [Nd] at e
            obtain ⟨r,_,rfl⟩:=e
            have:=c b rfl
            omega) (by rw [PD];exact hl)
           exact ⟨by rw [PN];rw [PD] at g1;exact g1,Nhe (c b rfl) g⟩
theorem Nb3 {lim i:Nat} {H:NB} {b:Blk} (h:lim<=i) (ho:owned b=true):H.length<=(H.set i b).length/\Grow lim H (H.set i b):=⟨by simp,Grow.set h fun _=>ho⟩
theorem Nep {lim:Nat}:∀{l:List Nat} {H H':NB},shut lim l H=some H'->H.length<=H'.length/\Grow lim H H'
 | [],H,H',h=>by cases h;exact ⟨Ng _,Grow.refl _ _⟩
 | i::l,H,H',h=>by
   simp only [shut] at h
   split at h
   ·split at h
    ·rename_i hl
     obtain ⟨h1,h2⟩:=Nep h
     exact ⟨by simpa using h1,(Grow.set (b:=.dead) hl fun h=>by simp [alive] at h).trans h2⟩
    ·cases h
   ·cases h
theorem Nd6 {lim i:Nat} {j:Option ACode} {H H':NB} {v:Value} (hl:lim<=i) (h:endRound i j H=some (v,H')):H.length<=H'.length/\Grow lim H H':=by
 unfold endRound at h
 split at h
 ·cases h;exact Nb3 hl rfl
 ·cases h
def TV (C:TA):Prop:=∀mp lim g as H L,C mp lim g as H=some L->lim<=H.length->∀r∈L,H.length<=r.2.length/\Grow lim H r.2
theorem TV.det {C:TA} (h:TV C):Ndz (AM.det C):=fun mp lim g as H v H' a hl=>h _ _ _ _ _ _ (SQ a) hl (v,H') (by simp)
theorem Nkb {C:TA} (i:TV C) {lim:Nat} {o:AOp} {ρ:Operand->Value} {H:NB} {L} (h:XL C lim o ρ H=some L) (hl:lim<=H.length):∀r∈L,H.length<=r.2.length/\Grow lim H r.2:=fun r hr=>by
 by_cases hc:∃mp f args,o=.call mp f args
 ·obtain ⟨mp,f,args,rfl⟩:=hc
  simp only [XL] at h
  split at h
  case h_2=>cases h
  split at h
  case h_2=>cases h
  rename_i L0 a
  obtain ⟨x,j,e⟩:=M8 h r hr
  obtain ⟨b,c⟩:=CM.lim_le mp hl
  have:=(Tm e).1
  cases this
  obtain ⟨g1,g⟩:=i _ _ _ _ _ _ a c r j
  exact ⟨g1,g.weaken b⟩
 ·have plain:∀{v:Value} {H':NB},(NJ lim none o ρ H).map (fun r=>[r])=some L->r=(v,H')->H.length<=H'.length/\Grow lim H H':=fun {v H'} h e=>by
   simp only [Nd] at h
   obtain ⟨p,hp,rfl⟩:=h
   rw [Ni] at hr
   subst hr
   cases e
   exact ⟨Nod hp,Ndp hp (fun d e=>by cases e) hl⟩
  cases o<;>first
   | exact absurd ⟨_,_,_,rfl⟩ hc
   | exact plain h rfl
theorem Nj9 {C:TA} (a:TV C) {lim:Nat} {i:AIns} {ρ:Operand->Value} {H:NB} {L} (h:Vv C lim i ρ H=some L) (hl:lim<=H.length):∀r∈L,H.length<=r.2.length/\Grow lim H r.2:=fun r hr=>by
 unfold Vv at h
 split at h
 ·exact Nkb a h hl r hr
 cases h
theorem Nqn {C:TA} (c:TV C) {N lim:Nat} {i:AIns} {fr:Nat->Value} {H:NB} {L} (h:Ze C N lim i fr H=some L) (hl:lim<=H.length):∀r∈L,H.length<=r.2.length/\Grow lim H r.2:=fun r hr=>by
 unfold Ze at h
 cases hw:RY N fr i.guard with
 | none=>rw [hw] at h;cases h
 | some b=>
   rw [hw] at h
   cases b with
   | false=>
     simp only [Nd] at h
     obtain ⟨f,_,rfl⟩:=h
     rw [Ni] at hr
     subst hr
     exact ⟨Ng _,Grow.refl _ _⟩
   | true=>
     simp only at h
     split at h
     case h_2=>cases h
     rename_i L0 a
     obtain ⟨x,d,e⟩:=M8 h r hr
     simp only [Nd] at e
     obtain ⟨f,_,rfl⟩:=e
     exact Nj9 c a hl x d
theorem YP {E:Env} {run:AFunc->Nat->List AItem->(Nat->Value)->NB->Option (List (Value×NB))}
  (h:∀af lim k fr H L,(∀x∈k,∀b l,x≠.ops (some b) l)->run af lim k fr H=some L->lim<=H.length->∀r∈L,H.length<=r.2.length/\Grow lim H r.2):TV (QP E run):=by
 intro mp lim g as H L a hl r hr
 unfold QP at a
 have keep:∀{v:Value},some [(v,H)]=some L->H.length<=r.2.length/\Grow lim H r.2:=fun {v} e=>by
  cases e
  rw [Ni] at hr
  subst hr
  exact ⟨Ng _,Grow.refl _ _⟩
 cases g with
 | inr i=>
   simp only at a
   split at a
   ·cases a
   split at a
   ·split at a
    ·exact h _ _ _ _ _ _ (fun x a b l e=>by simp at a;rcases a with rfl | rfl | rfl | rfl<;>cases e) a hl r hr
    ·cases a
   ·cases a
 | inl g=>
 simp only at a
 split at a
 ·split at a
  ·exact keep a
  ·cases a
 ·split at a
  ·cases a
  ·split at a
   ·split at a
    ·split at a
     ·split at a
      ·exact keep a
      ·cases a
     ·cases a
    ·cases a
   ·split at a
    ·cases a
    ·exact h _ _ _ _ _ _ (fun x a b l e=>by simp at a;subst a;cases e) a hl r hr
theorem YC {id:Nat}:∀{k k':List AItem} {Pr:AItem->Prop},RQ id k=some k'->(∀x∈k,Pr x)->∀x∈k',Pr x
 | [],_,_,h,_=>by simp [RQ] at h
 | y::k,k',Pr,h,hp=>by
   have a:∀x∈k,Pr x:=fun x b=>hp x (Nh _ b)
   cases y<;>simp only [RQ] at h
   case inBlock c=>
    split at h
    ·cases h;exact a
    ·exact YC h a
   all_goals exact YC h a
theorem Nfo (E:Env):∀(n:Nat) (af:AFunc) (lim:Nat) (k:List AItem) (fr:Nat->Value) (H:NB) (L:List (Value×NB)),(∀x∈k,∀b l,x=.ops (some b) l->lim<=b)->OX E n af lim k fr H=some L->lim<=H.length->
  ∀r∈L,H.length<=r.2.length/\Grow lim H r.2
 | 0,_,_,_,_,_,_,_,h,_,_,_=>by simp [OX] at h
 | n+1,af,lim,k,fr,H,L,hk,h,hl,r,hr=>by
   have ih:=Nfo E n
   rw [OX.eq_def] at h
   simp only at h
   have C:one ((result fr H af.results).map (·,H))=some L->H.length<=r.2.length/\Grow lim H r.2:=fun h=>by
    obtain ⟨x,h',rfl⟩:=Ve h
    rw [Ni] at hr
    subst hr
    simp only [Nd] at h'
    obtain ⟨_,_,rfl⟩:=h'
    exact ⟨Ng _,Grow.refl _ _⟩
   have o:∀{i:Nat} {j:Option ACode},lim<=i->one (endRound i j H)=some L->H.length<=r.2.length/\Grow lim H r.2:=fun {i j} I h=>by
    obtain ⟨x,h',rfl⟩:=Ve h
    rw [Ni] at hr
    subst hr
    exact Nd6 I h'
   have v:TV (QP E (OX E n)):=YP fun M lim' k' fr' H0 L0 F O G=>ih _ _ _ _ _ _ (fun x d b l e=>absurd e (F x d b l)) O G
   cases k with
   | nil=>exact C h
   | cons x k=>
     have g:∀x∈k,∀b l,x=.ops (some b) l->lim<=b:=fun x d=>hk x (Nh _ d)
     have add:∀{c:AItem},(∀b l,c≠.ops (some b) l)->∀x∈c::k,∀b l,x=.ops (some b) l->lim<=b:=fun {c} hc x d b l e=>by
      rcases Nu.1 d with h | h
      ·subst h;exact absurd e (hc b l)
      ·exact g x h b l e
     cases x with
     | inBlock id=>exact ih _ _ _ _ _ _ g h hl r hr
     | begin i=>
       simp only at h
       split at h
       ·split at h
        ·rename_i hc
         obtain ⟨g1,p⟩:=Nb3 (H:=H) (b:=.loop { ‹LoopB› with st:=1 }) hc.2 rfl
         obtain ⟨B,u⟩:=ih _ _ _ _ _ _ g h (by simpa using hl) r hr
         exact ⟨by simpa using B,p.trans u⟩
        ·cases h
       ·cases h
     | round i=>
       simp only at h
       split at h
       ·exact o ‹_› h
       ·cases h
     | mark i=>simp at h
     | inLoop c=>
       refine ih _ _ _ _ _ _ (fun x d b l e=>?_) h hl r hr
       rcases Nu.1 d with h | h
       ·subst h;cases e
       ·exact add (c:=.inLoop c) (by simp) x h b l e
     | ops base l=>
       cases l with
       | nil=>cases base<;>exact ih _ _ _ _ _ _ g h hl r hr
       | cons i l=>
         cases base with
         | none=>
           simp only at h
           split at h
           ·rename_i L0 d
            obtain ⟨x,K,s,A,z⟩:=UT h r hr
            obtain ⟨g1,p⟩:=Nqn v d hl x K
            obtain ⟨B,u⟩:=ih _ _ _ _ _ _ (add (c:=.ops none l) (by simp)) A (by omega) r z
            exact ⟨by omega,p.trans u⟩
           ·cases h
         | some N=>
           simp only at h
           split at h
           ·rename_i fr' H1 d
            obtain ⟨g1,p⟩:=Nco v.det d (fun b e=>hk _ Nm b (i::l) (by cases e;rfl)) hl
            obtain ⟨B,u⟩:=ih _ _ _ _ _ _ (fun x d b l' e=>by
             rcases Nu.1 d with h | h
             ·subst h;cases e;exact hk _ Nm N (i::l) rfl
             ·exact g x h b l' e) h (by omega) r hr
            exact ⟨by omega,p.trans u⟩
           ·cases h
     | code c=>
       cases c<;>simp only at h
       case skip=>exact ih _ _ _ _ _ _ g h hl r hr
       case ops l=>exact ih _ _ _ _ _ _ (add (c:=.ops none l) (by simp)) h hl r hr
       case drawn m l=>
        obtain ⟨g1,p⟩:=ih _ _ _ _ _ _ (fun x d b l' e=>by
         rcases Nu.1 d with h | h
         ·subst h;cases e;exact hl
         ·exact g x h b l' e) h (by simp;omega) r hr
        exact ⟨by simp at g1;omega,(Grow.dead hl m).trans p⟩
       case seq a b=>
        refine ih _ _ _ _ _ _ (fun x d b' l e=>?_) h hl r hr
        rcases Nu.1 d with h | h
        ·subst h;cases e
        ·exact add (c:=.code b) (by simp) x h b' l e
       case cond c a b=>
        cases hc:ev fr c<;>rw [hc] at h<;>first
         | (rename_i t;cases t<;>exact ih _ _ _ _ _ _ (add (by simp)) h hl r hr)
         | (cases h;done)
       case block id b=>
        refine ih _ _ _ _ _ _ (fun x d b' l e=>?_) h hl r hr
        rcases Nu.1 d with h | h
        ·subst h;cases e
        ·exact add (c:=.inBlock id) (by simp) x h b' l e
       case loop b=>
        refine ih _ _ _ _ _ _ (fun x d b' l e=>?_) h hl r hr
        rcases Nu.1 d with h | h
        ·subst h;cases e
        ·exact add (c:=.inLoop b) (by simp) x h b' l e
       case exit id=>
        split at h
        ·rename_i k' w
         exact ih _ _ _ _ _ _ (YC w g) h hl r hr
        ·cases h
       case ret=>exact C h
       case retM=>
        split at h
        ·rename_i H1 J
         obtain ⟨g1,p⟩:=Nep (lim:=lim) J
         obtain ⟨x,h',rfl⟩:=Ve h
         rw [Ni] at hr
         subst hr
         simp only [Nd] at h'
         obtain ⟨_,_,rfl⟩:=h'
         exact ⟨g1,p⟩
        ·cases h
       case retR=>
        split at h
        ·split at h
         ·exact o ‹_› h
         ·cases h
        ·cases h
       case exitR id=>
        split at h
        ·rename_i k' w
         exact ih _ _ _ _ _ _ (YC w g) h hl r hr
        ·split at h
         ·split at h
          ·exact o ‹_› h
          ·cases h
         ·cases h
       case rangeF f ps a b=>
        split at h
        ·split at h
         ·rename_i L0 d
          obtain ⟨q,P,s,A,z⟩:=UT h r hr
          obtain ⟨g1,p⟩:=v _ _ _ _ _ _ d (by simp;omega) q P
          simp at g1
          split at A
          ·rename_i x D
           split at A
           ·cases A
           ·obtain ⟨B,u⟩:=ih _ _ _ _ _ _ (fun y hy b l e=>by
             rcases Nw.1 hy with hy | hy
             ·cases hp:x.pend<;>rw [hp] at hy<;>simp at hy
              subst hy;cases e
             ·rcases Nw.1 hy with hy | hy
              ·exact g y hy b l e
              ·simp at hy;subst hy;cases e) A (by simp;omega) r z
            simp at B
            exact ⟨by omega,(Grow.app hl fun b D _=>by simp at D;rcases D with rfl | rfl<;>rfl).trans (p.trans ((Grow.set (b:=.dead) (by omega) fun h=>by simp [alive] at h).trans u))⟩
          ·cases A
         ·cases h
        ·cases h
open Go.RowKit
structure CallOkS (Pg:Prg) (C:TA):Prop where
 fn:∀mp lim g as H L,C mp lim (.inl g) as H=some L->∃fn,Pg.P.funcs[g]? = some fn/\fn.body.isSome=true/\(fn.name == "runtime.NumGoroutine")=false
 calls:∀mp lim g as H L,C mp lim (.inl g) as H=some L->lim<=H.length->∀W σ w as',Inv Pg W lim σ H w->OV σ as as'->Calls Pg.P g as'.toArray w fun e w'=>∃r∈L,VV Pg W lim σ H r.1 r.2 w e w'
 rounds:∀mp lim i as H L,C mp lim (.inr i) as H=some L->lim<=H.length->∀W σ w as' L0,Inv Pg W lim σ H w->OV σ as as'->σ i=some L0->
  ∃r,w.heap[L0.blk]? = some (.loop r)/\as'.toArray.size=r.params.size/\RoundIn Fence.wide 0 Pg.P L0.blk r.fn (TB r as'.toArray) r.assign r.body w fun e w'=>∃x∈L,VV Pg W lim σ H x.1 x.2 w e w'
 grow:TV C
 pure:∀lim g as H L,C true lim g as H=some L->∀r∈L,r.2=H
theorem CallOkS.det {Pg:Prg} {C:TA} (h:CallOkS Pg C):CallOk Pg (AM.det C) where
 pure lim g as H v H' hx:=h.pure _ _ _ _ _ (SQ hx) (v,H') (by simp)
 len mp lim g as H v H' hx hl:=(h.grow _ _ _ _ _ _ (SQ hx) hl (v,H') (by simp)).1
 keep mp lim g as H v H' hx hl:=(h.grow _ _ _ _ _ _ (SQ hx) hl (v,H') (by simp)).2.keep
 fn mp lim g as H v H' hx:=h.fn _ _ _ _ _ _ (SQ hx)
 calls mp lim g as H v H' hx hl W σ w as' hinv ha:=(h.calls _ _ _ _ _ _ (SQ hx) hl W σ w as' hinv ha).mono fun e w' hp=>by
  obtain ⟨r,hr,hp⟩:=hp
  rw [Ni] at hr
  subst hr
  exact hp
 rounds mp lim i as H v H' hx hl W σ w as' L hinv ha hL:=by
  obtain ⟨r,h1,h2,a⟩:=h.rounds _ _ _ _ _ _ (SQ hx) hl W σ w as' L hinv ha hL
  exact ⟨r,h1,h2,a.mono fun e w' hp=>by
   obtain ⟨x,hx,hp⟩:=hp
   rw [Ni] at hx
   subst hx
   exact hp⟩
 grow mp lim g as H v H' hx hl:=(h.grow _ _ _ _ _ _ (SQ hx) hl (v,H') (by simp)).2
theorem Njk (Pg:Prg):CallOk Pg fun _ _ _ _ _=>none where
 pure:=fun _ _ _ _ _ _ h=>by cases h
 len:=fun _ _ _ _ _ _ _ h=>by cases h
 keep:=fun _ _ _ _ _ _ _ h=>by cases h
 fn:=fun _ _ _ _ _ _ _ h=>by cases h
 calls:=fun _ _ _ _ _ _ _ h=>by cases h
 rounds:=fun _ _ _ _ _ _ _ h=>by cases h
 grow:=fun _ _ _ _ _ _ _ h=>by cases h
section
variable {P:Program} {pf pureF:FuncId->Bool} {C:TA} {W:Nat->Prop} {lim:Nat} {σ:PT} {H H':NB} {w:World} {ds:List Deferred} {ro:Option Nat}
theorem Inv.push {Pg:Prg} (h:Inv Pg W lim σ H w) {b:Blk} {o:Obj} (ho:owned b=true) (g:UW Pg (σ.put H.length ⟨w.heap.size,0,0⟩) (w.alloc o) ⟨w.heap.size,0,0⟩ b):Inv Pg W lim (σ.put H.length ⟨w.heap.size,0,0⟩) (H++[b]) (w.alloc o)/\∀j,(σ.put H.length ⟨w.heap.size,0,0⟩) j≠σ j->none=some j\/H.length<=j:=by
 have hw:Inv Pg W lim σ H (w.alloc o):=h.world (by simp) fun b g=>by rw [Uv,Qc];rw [Nf (by omega)]
 obtain ⟨g1,i,p,k,q,r,s⟩:=TR (dest:=none) (b:=b) (H:=H) (show place none b H=(H.length,H++[b]) from rfl) (fun d e=>by cases e)
 refine ⟨hw.adopt g1 i k (h.dom _ (Ng _)) g ho (h.fresh _ (Ng _)) fun j bj Lj m c f a e=>?_,fun j l=>.inr ?_⟩
 ·obtain ⟨n,h1,h2⟩:=h.blk j bj c f
  rw [a] at h1;cases h1
  have:=h2.lt f
  simp at e
  omega
 ·apply Ns
  intro hc
  refine l ?_
  simp only [PT.put]
  rw [Nf (by omega)]
theorem Nxh {r:Nat} {o:Obj} (a:W r):Stp W w (w.putObj r o):=
 ⟨rfl,rfl,rfl,by simp,fun b c=>World.putObj_heap_other fun e=>c (e▸a)⟩
theorem Inv.putLoop (h:Inv (Prg.mk P pf) W lim σ H w) {i:Nat} {b b':Blk} {L:Loc} (e:NC H i=b) (ho:owned b=true) (d:σ i=some L) (hl:lim<=i) {o:Obj} (a:UW (Prg.mk P pf) σ (w.putObj L.blk o) L b') (c:alive b'=true->owned b'=true) :
  Inv (Prg.mk P pf) W lim σ (H.set i b') (w.putObj L.blk o)/\Stp W w (w.putObj L.blk o):=by
 have hi:=Tj e (PP ho)
 exact ⟨h.rewrite hi ho d (by simp) (fun k f=>World.putObj_heap_other f) a c,Nxh (h.wr i b L hi ho hl d)⟩
theorem Nsm (Y:CallOkS (Prg.mk P pf) C) {o:Oper} {M:AOp} (h:Mm P pureF false o=some M) (A:Inv (Prg.mk P pf) W lim σ H w) (hl:lim<=H.length)
  {ρ:Operand->Value} {a:Act} (hρ:∀x,PX x=true->VRel σ (ρ x) (a.eval x)) {L} (t:XL C lim M ρ H=some L)
  {K:Act->World->Prop} {Q:Exit->Act->World->Prop} (Z:∀r∈L,∀v' w' B,Mh (Prg.mk P pf) W lim σ none H w r.1 r.2 v' w' B->K (a.put o.dst v') w'):o.wpIn (WF ro) 0 P a w K Q:=by
 by_cases z:∃mp f args,M=.call mp f args
 ·obtain ⟨mp,f,args,rfl⟩:=z
  have ae:∃c,o.op=.call c/\c.callee=.value f/\args=c.args.toList/\∀x∈o.op.operands,PX x=true:=by
   obtain ⟨dst,op,type,pos,after,guard⟩:=o
   unfold Mm at h
   split at h
   ·cases h
   rename_i S
   simp only [Bool.not_eq_true,Bool.not_eq_false'] at S
   have s:∀x∈op.operands,PX x=true:=fun x t=>Nna (o:=⟨dst,op,type,pos,after,guard⟩) (by simpa using S) t
   cases op<;>(try simp only at h)<;>try (cases h;done)
   case call c=>
    refine ⟨c,rfl, ?_⟩
    cases hc:c.callee with
    | value f'=>rw [hc] at h;simp at h;obtain ⟨_,rfl,rfl⟩:=h;exact ⟨rfl,rfl,s⟩
    | invoke r m=>rw [hc] at h;simp at h
    | builtin b=>
      rw [hc] at h
      exfalso
      cases b<;>(try simp only at h)<;>(try (cases h;done))<;>(repeat' (split at h))<;>first
       | (cases h;done)
       | (simp only [Nd] at h;obtain ⟨_,_,h⟩:=h;cases h;done)
       | (exfalso;simp at h;done)
       | (obtain ⟨_,_,h⟩:=OD h;obtain ⟨_,_,h⟩:=OD h;obtain ⟨_,_,h⟩:=OD h;split at h<;>cases h;done)
   all_goals exfalso
   all_goals (repeat' (first | (obtain ⟨_,_,h⟩:=OD h) | split at h))
   all_goals first
    | (cases h;done)
    | (simp only [Nd] at h;obtain ⟨_,_,h⟩:=h;cases h;done)
    | contradiction
  obtain ⟨c,ho,p,rfl,s⟩:=ae
  simp only [XL] at t
  split at t
  case h_2=>cases t
  rename_i g as l
  split at t
  case h_2=>cases t
  rename_i L0 k
  have ag:∀r∈L0,r∈L:=fun r hr=>by
   obtain ⟨y,hy,e⟩:=ZJ t r hr
   have:=(Tm e).1
   cases this
   exact hy
  obtain ⟨J,E⟩:=CM.lim_le mp hl
  have n:=A.up J
  generalize mp.lim lim H=lim' at k J E n
  generalize mp.isPure=ah at k
  have U:∀{ρ'},o.semAt (WF ro).round ρ'=execOp ρ' o:=fun {ρ'}=>Oper.semAt_eq _ _ _ fun c' e=>by rw [ho] at e;cases e
  refine ⟨fun _ _=>trivial, ?_⟩
  rw [U]
  have ad:PX f=true:=s f (by rw [ho];simp [Op.operands,Call.operands,p])
  have D:=hρ f ad
  have u:OV σ (c.args.toList.map ρ) (c.args.map a.eval).toList:=by
   have:(c.args.map a.eval).toList=c.args.toList.map a.eval:=by simp
   rw [this]
   exact V5 fun x t=>hρ x (s x (by rw [ho];simp only [Op.operands,Call.operands,p];simp at t⊢;exact .inr t))
  have fin:∀{N:Ending} {w':World} {K':Value->World->Prop},(∃r∈L0,VV (Prg.mk P pf) W lim' σ H r.1 r.2 w N w')->(∀v',N=.returned v'->(∃r∈L,∃B,Mh (Prg.mk P pf) W lim σ none H w r.1 r.2 v' w' B)->K' v' w')->∃v',N=.returned v'/\K' v' w':=fun {N w' K'} hp O=>by
   obtain ⟨r,hr,v',B,rfl,q1,q2,q3,q4,q5⟩:=hp
   obtain ⟨g1,g2⟩:=Y.grow _ _ _ _ _ _ k E r hr
   exact ⟨v',rfl,O v' rfl ⟨r,ag r hr,B,q1,A.back q2 q4 g2,q3,q4,fun j hj=>.inr (q5 j hj),g1,g2.weaken J⟩⟩
  unfold NE at l
  split at l
  case h_3=>cases l
  case h_2=>
   rename_i i fi ca hf
   simp only [Option.some.injEq,Prod.mk.injEq] at l
   obtain ⟨rfl,rfl⟩:=l
   rw [hf] at D
   obtain ⟨L1,hL,rfl,rfl,I⟩:=D.yld_left
   simp only [Ob,Na] at k
   obtain ⟨r,h1,h2,X⟩:=Y.rounds _ _ _ _ _ _ k E W σ w _ L1 n u hL
   simp only [Array.toArray_toList] at h2 X
   rw [Nc6 (P:=P) ho p I h1 h2,Oper.uponIn_round]
   refine ⟨Zv,Nb8 (X.mono fun N w' hp=>?_)⟩
   obtain ⟨v',rfl,O⟩:=fin (K':=fun v' w'=>K (a.put o.dst v') w') hp fun v' _ ⟨r,hr,B,hn⟩=>Z r hr v' w' B hn
   exact O
  rename_i g' fi ca hf
  simp only [Option.some.injEq,Prod.mk.injEq] at l
  obtain ⟨rfl,rfl⟩:=l
  rw [hf] at D
  obtain ⟨G,F,I,ac,aa⟩:=D.func_left
  obtain ⟨fn,h1,h2,X⟩:=Y.fn _ _ _ _ _ _ k
  have T:=Nc7 (P:=P) (w:=w) ho p I h1 h2 X
  have q:=Y.calls _ _ _ _ _ _ k E W σ w (G.toList++(c.args.map a.eval).toList++F.toList) n ((ac.append u).append aa)
  have e:(G.toList++(c.args.map a.eval).toList++F.toList).toArray=G++c.args.map a.eval++F:=by
   apply Array.ext';simp
  rw [e] at q
  rw [T,Oper.uponIn_enter]
  refine ⟨Zv,Nc4 (q.mono fun N w' hp=>?_)⟩
  obtain ⟨v',rfl,O⟩:=fin (K':=fun v' w'=>K (a.put o.dst v') w') hp fun v' _ ⟨r,hr,B,hn⟩=>Z r hr v' w' B hn
  exact O
 ·have R:∀mp f args,M≠.call mp f args:=fun mp f args e=>z ⟨mp,f,args,e⟩
  have V:(NJ lim none M ρ H).map (fun r=>[r])=some L:=by
   cases M<;>first | exact t | exact absurd rfl (R _ _ _)
  simp only [Nd] at V
  obtain ⟨⟨v,H'⟩,hv,rfl⟩:=V
  refine Nou (Njk (Prg.mk P pf)) (dest:=none) h A hl (fun d e=>by cases e) (fun d e=>by cases e) hρ (v:=v) (H':=H') (by rw [PE R];exact hv) fun v' w' B hn=>Z (v,H') (by simp) v' w' B hn
theorem Noy {o:Oper} {x:Operand} {k:Nat} (b:N01 P o=some (x,k)) (c:Inv (Prg.mk P pf) W lim σ H w) (hl:lim<=H.length)
  {ρ:Operand->Value} {a:Act} (j:∀x,PX x=true->VRel σ (ρ x) (a.eval x)) {L} {i:AIns} (d:i.op=.mov x) (e:i.dest=some k) (h:Vv C lim i ρ H=some L)
  {K:Act->World->Prop} {Q:Exit->Act->World->Prop} (g:∀r∈L,∀v' w' f,Mh (Prg.mk P pf) W lim σ none H w r.1 r.2 v' w' f->K (a.put o.dst v') w'):o.wpIn (WF ro) 0 P a w K Q:=by
 cases b
theorem Nyj (E:CallOkS (Prg.mk P pf) C) {ops:Array Oper} {j:Nat} {o:Oper} (z:ops[j]? = some o) {i:AIns} (c:XJ P pureF ops o=some i) {N:Nat} {fr:Nat->Value} {a:Act} (l:State (Prg.mk P pf) ds W lim σ N fr H a w)
  {L} (h:Ze C N lim i fr H=some L) {K:Act->World->Prop} {Q:Exit->Act->World->Prop} (B:∀r∈L,∀q a' w',State (Prg.mk P pf) ds W lim q N r.1 r.2 a' w'->Stp W w w'->PT.le σ q->Grow lim H r.2->(∀j,q j≠σ j->H.length<=j)->H.length<=r.2.length->K a' w'):wpOpIn (WF ro) 0 P ops Q j K a w:=by
 have e:(∃s,Mm P pureF false o=some s/\i.op=s/\i.dest=none\/∃x k,N01 P o=some (x,k)/\i.op=.mov x/\i.dest=some k)/\i.dst=o.dst/\Zz ops o.guard=some i.guard:=by
  unfold XJ at c
  split at c
  ·rename_i M m
   cases c
   obtain ⟨s,d,m⟩:=OD m
   obtain ⟨g,v,m⟩:=OD m
   cases m
   exact ⟨⟨s,.inl ⟨d,rfl,rfl⟩⟩,rfl,v⟩
  ·obtain ⟨⟨x,k⟩,d,c⟩:=OD c
   obtain ⟨g,v,c⟩:=OD c
   cases c
   exact ⟨⟨default,.inr ⟨x,k,d,rfl,rfl⟩⟩,rfl,v⟩
 obtain ⟨e,p,v⟩:=e
 unfold wpOpIn
 rw [z]
 simp only
 unfold Ze at h
 cases hw:RY N fr i.guard with
 | none=>rw [hw] at h;cases h
 | some b=>
 rw [l.fr.wanted v hw]
 rw [hw] at h
 cases b with
 | false=>
   simp only [Oe,if_false]
   simp only [Nd] at h
   obtain ⟨f,u,rfl⟩:=h
   rw [p] at u
   exact ⟨fun _ _=>trivial,B _ (Ni.2 rfl) σ _ w ⟨l.fr.put (.atom rfl) u,l.inv,l.lim⟩ (Stp.refl _ _) (PT.le_refl _) (Grow.refl _ _) (fun j z=>absurd rfl z) (Ng _)⟩
 | true=>
   simp only [if_true]
   simp only at h
   split at h
   case h_2=>cases h
   rename_i L0 n
   have go:∀r∈L0,∀v' w' q,Mh (Prg.mk P pf) W lim σ none H w r.1 r.2 v' w' q->K (a.put o.dst v') w':=fun r hr v' w' q hn=>by
    obtain ⟨y,F,A⟩:=ZJ h r hr
    simp only [Nd] at A
    obtain ⟨f,u,rfl⟩:=A
    rw [p] at u
    obtain ⟨q1,q2,q3,D,G,I,J⟩:=hn
    exact B _ F q _ w' ⟨(l.fr.mono D).put q1 u,q2,by have:=l.lim;simp only;omega⟩ q3 D J (fun j z=>(G j z).resolve_left (by simp)) I
   obtain ⟨s,⟨d,h1,h2⟩ | ⟨x,k,d,h1,h2⟩⟩:=e
   ·have t:XL C lim s (ev fr) H=some L0:=by
     unfold Vv at n
     rw [h2,h1] at n
     exact n
    exact Nsm E d l.inv l.lim (fun x h=>l.fr.ev h) t go
   ·exact Noy d l.inv l.lim (fun x h=>l.fr.ev h) h1 h2 n go
theorem YL (p:CallOkS (Prg.mk P pf) C) {ops:Array Oper} {N:Nat} {Q:Exit->Act->World->Prop} (W:Nat->Prop) (lim:Nat) (d:PT) (H0:NB) (o:World) {l:List AIns} (hl:ops.toList.mapM (XJ P pureF ops)=some l) :
  ∀(m s:Nat) (fr:Nat->Value) (H:NB) (a:Act) (w:World) (σ:PT) (i:List ((Nat->Value)×NB)),
   (∀r∈i,∀a w σ,State (Prg.mk P pf) ds W lim σ N r.1 r.2 a w->Stp W o w->PT.le d σ->Grow lim H0 r.2->(∀j,σ j≠d j->H0.length<=j)->H0.length<=r.2.length->Q .normal a w)->
   s+m=ops.size->State (Prg.mk P pf) ds W lim σ N fr H a w->Stp W o w->PT.le d σ->Grow lim H0 H->(∀j,σ j≠d j->H0.length<=j)->H0.length<=H.length->
   X6 C N lim (l.drop s) fr H=some i->wpOpsIn (WF ro) 0 P ops Q (List.range' s m) a w
 | 0,s,fr,H,a,w,σ,i,hQ,hs,hst,h1,h2,h3,h4,h5,c=>by
   have b:=(ZI hl).1
   have:l.drop s=[]:=by
    apply Qt
    rw [b];simp;omega
   rw [this] at c
   simp [X6] at c
   subst c
   simp only [List.range'_zero,wpOpsIn]
   exact hQ (fr,H) (by simp) a w σ hst h1 h2 h3 h4 h5
 | m+1,s,fr,H,a,w,σ,i,hQ,hs,hst,h1,h2,h3,h4,h5,c=>by
   obtain ⟨b,NC⟩:=ZI hl
   have f:s<l.length:=by rw [b];simp;omega
   have g:s<ops.size:=by omega
   rw [Pk f] at c
   simp only [X6] at c
   split at c
   case h_2=>cases c
   rename_i L t
   have n:=NC s ops[s] l[s] (by simp [g]) (by simp [f])
   rw [List.range'_succ,wpOpsIn_cons]
   refine Nyj p (by simp [g]) n hst t fun r hr z a' w' q1 q2 q3 v y A=>?_
   obtain ⟨q,k,h⟩:=UR c r hr
   exact YL p W lim d H0 o hl m (s+1) r.1 r.2 a' w' z q (fun x c=>hQ x (h x c)) (by omega) q1 (h1.trans q2) (PT.le_trans h2 q3) (h3.trans v)
    (fun j u=>by
     apply Oq
     intro hc
     have e1:σ j=d j:=Ns fun e=>hc (h4 j e)
     have:=y j (fun e=>u (e.trans e1))
     omega) (by omega) k
end
end Go.AM


namespace Go.AM
open Go.RowKit
structure EnvOk (P:Program) (E:Env):Prop where
 tr:∀g af,E.tr g=some af->NW P E.pure g=some af
 orcFn:∀g as v,E.orc g as=some v->∃fn,P.funcs[g]? = some fn/\fn.body.isSome=true/\(fn.name == "runtime.NumGoroutine")=false
 orc:∀g as v,E.orc g as=some v->∀w,Calls P g as.toArray w fun e w'=>e=.returned v/\Below w.heap.size w w'
 orcFlat:∀g as v,E.orc g as=some v->∀σ,VRel σ v v
 mixed:P.follows .mixedOrders=true
theorem VRel.eq_of_atom {σ:PT} {v v':Value} (h:VRel σ v v') (a:AM.atom v=true):v'=v:=by
 cases h with
 | atom _=>rfl
 | func h1 h2 k1 k2=>
   simp [AM.atom] at a
   obtain ⟨rfl,rfl⟩:=a
   simp at h1 h2
   rw [Array.size_eq_zero_iff.1 h1.symm,Array.size_eq_zero_iff.1 h2.symm]
 | tuple h k=>
   simp [AM.atom] at a
   subst a
   rw [Array.size_eq_zero_iff.1 h.symm]
 | _=>simp [AM.atom] at a
theorem ZH {n:Nat} (d:Nat) {v:Value} (h:AM.atom v=true):olds n d v=true:=by
 cases v with
 | pointer o=>
   cases o with
   | none=>cases d<;>rfl
   | some a=>simp [AM.atom] at h
 | map o=>
   cases o with
   | none=>cases d<;>rfl
   | some a=>simp [AM.atom] at h
 | slice o a b=>
   cases o with
   | none=>cases d<;>exact h
   | some a=>simp [AM.atom] at h
 | agg cs=>simp [AM.atom] at h
 | tuple cs=>
   have:cs=#[]:=by simpa [AM.atom] using h
   subst this
   cases d<;>rfl
 | _=>cases d<;>exact h
theorem Xf {n:Nat}:∀(d:Nat) {v:Value},flat d v=true->olds n d v=true
 | 0,v,h=>ZH 0 (by cases v<;>simpa [flat] using h)
 | d+1,v,h=>by
   cases v with
   | agg cs=>simp only [flat,olds,Oi] at h⊢;exact fun x a=>Xf d (h x a)
   | tuple cs=>simp only [flat,olds,Oi] at h⊢;exact fun x a=>Xf d (h x a)
   | _=>exact ZH _ (by simpa [flat] using h)
theorem VRel.olds {σ τ:PT} {n:Nat} (a:∀i L,i<n->σ i=some L->τ i=some L):∀(d:Nat) {v v':Value},VRel σ v v'->olds n d v=true->VRel τ v v'
 | 0,v,v',h,hf=>by
   cases h with
   | atom h=>exact .atom h
   | ptr h=>exact .ptr (a _ _ (by simpa [AM.olds] using hf) h)
   | slice h hc=>exact .slice (a _ _ (by simpa [AM.olds] using hf) h) hc
   | lslice h hn hr=>exact .lslice (a _ _ (by simpa [AM.olds] using hf) h) hn hr
   | eslice h hc=>exact .eslice (a _ _ (by simpa [AM.olds] using hf) h) hc
   | map h=>exact .map (a _ _ (by simpa [AM.olds] using hf) h)
   | func h1 h2 k1 k2=>
     rw [(VRel.func h1 h2 k1 k2).eq_of_atom (by simpa [AM.olds] using hf)]
     exact .atom (by simpa [AM.olds] using hf)
   | yld h=>simp [AM.olds,AM.atom] at hf
   | agg h k o=>simp [AM.olds,AM.atom] at hf
   | @tuple xs ys h k=>
     have b:AM.atom (.tuple xs)=true:=by simpa [AM.olds] using hf
     rw [(VRel.tuple h k).eq_of_atom b]
     exact .atom b
 | d+1,v,v',h,hf=>by
   cases h with
   | agg h k o=>
     simp only [AM.olds,Oi] at hf
     exact .agg h (fun i h1 h2=>VRel.olds a d (k i h1 h2) (hf _ (by simp))) o
   | tuple h k=>
     simp only [AM.olds,Oi] at hf
     exact .tuple h (fun i h1 h2=>VRel.olds a d (k i h1 h2) (hf _ (by simp)))
   | atom h=>exact .atom h
   | ptr h=>exact .ptr (a _ _ (by simpa [AM.olds] using hf) h)
   | slice h hc=>exact .slice (a _ _ (by simpa [AM.olds] using hf) h) hc
   | lslice h hn hr=>exact .lslice (a _ _ (by simpa [AM.olds] using hf) h) hn hr
   | eslice h hc=>exact .eslice (a _ _ (by simpa [AM.olds] using hf) h) hc
   | map h=>exact .map (a _ _ (by simpa [AM.olds] using hf) h)
   | func h1 h2 k1 k2=>
     rw [(VRel.func h1 h2 k1 k2).eq_of_atom (by simpa [AM.olds] using hf)]
     exact .atom (by simpa [AM.olds] using hf)
   | yld h=>simp [AM.olds,AM.atom] at hf
section
variable {P:Program} {pf:FuncId->Bool} {W:Nat->Prop} {lim:Nat} {σ:PT} {H H':NB} {w:World} {ds:List Deferred}
inductive Md where
 | n | m | r (i:Nat)
def trX (P:Program) (pf:FuncId->Bool):Md->Code->Option ACode
 | .n=>WY P pf
 | .m=>Uh P pf
 | .r _=>TG P pf
inductive XC (P:Program) (pf:FuncId->Bool):Md->Code->ACode->Prop
 | skip {md}:XC P pf md .skip .skip
 | plain {md id ops l} (h:ops.toList.mapM (XJ P pf ops)=some l):XC P pf md (.region id ops false) (.ops l)
 | drawn {md id ops n L} (h:Vw P pf ops=some (.drawn n L)):XC P pf md (.region id ops true) (.drawn n L)
 | seq {md a b a' b'} (h:trX P pf md a=some a') (k:trX P pf md b=some b'):XC P pf md (.seq a b) (.seq a' b')
 | cond {md c a b a' b'} (ho:PX c=true) (h:trX P pf md a=some a') (k:trX P pf md b=some b'):XC P pf md (.cond c a b) (.cond c a' b')
 | block {md id a a'} (h:trX P pf md a=some a'):XC P pf md (.block id a) (.block id a')
 | loop {md a a'} (h:trX P pf md a=some a'):XC P pf md (.loop a) (.loop a')
 | exit {md id} (h:∀i,md≠.r i):XC P pf md (.exit id) (.exit id)
 | exitR {i id}:XC P pf (.r i) (.exit id) (.exitR id)
 | ret:XC P pf .n .ret .ret
 | retM:XC P pf .m .ret .retM
 | retR {i}:XC P pf (.r i) .ret .retR
 | rangeF {f ps a b a' b'} (ho:PX f=true) (h:TG P pf a=some a') (k:TG P pf b=some b'):XC P pf .m (.rangeFunc f ps a b) (.rangeF f ps.toList a' b')
theorem Nd0 {ops:Array Oper} {c:ACode} (h:Vw P pf ops=some c):∃n L,c=.drawn n L:=by
 obtain ⟨st,h⟩:∃st,WJ P pf st ops=some c:=by
  unfold Vw at h
  split at h
  ·rename_i hc;cases h;exact ⟨_,hc⟩
  ·exact ⟨_,h⟩
 unfold WJ at h
 obtain ⟨l,hl,h⟩:=OD h
 simp only at h
 repeat' (split at h)
 all_goals first
  | (cases h;done)
  | (cases h;exact ⟨_,_,rfl⟩)
theorem Non {md:Md} {C:Code} {c:ACode} (h:trX P pf md C=some c):XC P pf md C c:=by
 cases md<;>cases C<;>simp only [trX,WY,Uh,TG] at h<;>try (cases h;done)
 all_goals first
  | (cases h;first | exact .skip | exact .exit (by intros;nofun) | exact .exitR | exact .ret | exact .retM | exact .retR;done)
  | (rename_i id ops d
     cases d with
     | false=>simp only [Oe,if_false] at h;obtain ⟨l,hl,h⟩:=OD h;cases h;exact .plain hl
     | true=>simp only [if_true] at h;obtain ⟨n,L,rfl⟩:=Nd0 h;exact .drawn h
     done)
  | (obtain ⟨f,a,h⟩:=OD h;obtain ⟨g,b,h⟩:=OD h;cases h;exact .seq a b;done)
  | (obtain ⟨f,a,h⟩:=OD h;cases h;first | exact .block a | exact .loop a;done)
  | (split at h
     case isFalse=>cases h
     rename_i e
     obtain ⟨f,a,h⟩:=OD h;obtain ⟨g,b,h⟩:=OD h;cases h;first | exact .cond e a b | exact .rangeF e a b
     done)
inductive KRel (P:Program) (pf:FuncId->Bool):Md->List Nat->List AItem->List Item->Prop
 | nilN:KRel P pf .n [] [] []
 | nilM {ms:List Nat}:KRel P pf .m ms (.code .retM::ms.map .mark) []
 | nilR {i:Nat}:KRel P pf (.r i) [] [.round i] []
 | code {md ms c C k K} (h:trX P pf md C=some c) (t:KRel P pf md ms k K):KRel P pf md ms (.code c::k) (.code C::K)
 | inBlock {md ms id k K} (t:KRel P pf md ms k K):KRel P pf md ms (.inBlock id::k) (.inBlock id::K)
 | inLoop {md ms c C k K} (h:trX P pf md C=some c) (t:KRel P pf md ms k K):KRel P pf md ms (.inLoop c::k) (.inLoop C::K)
 | begin {i ms k K} (t:KRel P pf (.r i) ms k K):KRel P pf (.r i) ms (.begin i::k) (.beginRound::K)
theorem Nas {id:Nat}:∀(ms:List Nat),RQ id (ms.map .mark)=none
 | []=>rfl
 | i::ms=>by simp only [Pi,RQ];exact Nas ms
theorem KRel.exit {md:Md} {ms:List Nat} {id:Nat} {k k':List AItem} {K:List Item} (h:KRel P pf md ms k K) (he:RQ id k=some k'):∃K',exitTo id K=some K'/\KRel P pf md ms k' K':=by
 induction h with
 | nilN=>simp [RQ] at he
 | nilM=>simp only [RQ,Nas] at he;cases he
 | nilR=>simp [RQ] at he
 | code h t ih=>simp only [RQ] at he;simp only [exitTo];exact ih he
 | inLoop h t ih=>simp only [RQ] at he;simp only [exitTo];exact ih he
 | begin t ih=>simp only [RQ] at he;simp only [exitTo];exact ih he
 | inBlock t ih=>
   simp only [RQ] at he
   simp only [exitTo,beq_iff_eq]
   split at he
   ·rename_i e;rw [Nk e];cases he;exact ⟨_,rfl,t⟩
   ·rename_i e;rw [Nf e];exact ih he
theorem KRel.noExit {md:Md} {ms:List Nat} {id:Nat} {k:List AItem} {K:List Item} (h:KRel P pf md ms k K) (he:RQ id k=none):exitTo id K=none:=by
 induction h with
 | nilN=>rfl
 | nilM=>rfl
 | nilR=>rfl
 | code h t ih=>simp only [RQ] at he;simp only [exitTo];exact ih he
 | inLoop h t ih=>simp only [RQ] at he;simp only [exitTo];exact ih he
 | begin t ih=>simp only [RQ] at he;simp only [exitTo];exact ih he
 | inBlock t ih=>
   simp only [RQ] at he
   simp only [exitTo,beq_iff_eq]
   split at he
   ·cases he
   ·rename_i e;rw [Nf e];exact ih he
theorem KRel.roundOf {i:Nat} {ms:List Nat} {k:List AItem} {K:List Item} (h:KRel P pf (.r i) ms k K):roundOf k=some i:=by
 generalize a:Md.r i=md at h
 induction h with
 | nilN=>cases a
 | nilM=>cases a
 | nilR=>cases a;rfl
 | code h t ih=>simp only [AM.roundOf];exact ih a
 | inLoop h t ih=>simp only [AM.roundOf];exact ih a
 | begin t ih=>simp only [AM.roundOf];exact ih a
 | inBlock t ih=>simp only [AM.roundOf];exact ih a
theorem M7:∀(ms:List Nat),marks (ms.map .mark)=ms.reverse
 | []=>rfl
 | i::ms=>by simp only [Pi,marks,M7 ms,List.reverse_cons]
theorem KRel.marks {ms:List Nat} {k:List AItem} {K:List Item} (h:KRel P pf .m ms k K):marks k=ms.reverse:=by
 generalize a:Md.m=md at h
 induction h with
 | nilN=>cases a
 | nilM=>simp only [AM.marks];exact M7 _
 | nilR=>cases a
 | code h t ih=>simp only [AM.marks];exact ih a
 | inLoop h t ih=>simp only [AM.marks];exact ih a
 | begin t ih=>cases a
 | inBlock t ih=>simp only [AM.marks];exact ih a
theorem KRel.addMark {ms:List Nat} {k:List AItem} {K:List Item} (h:KRel P pf .m ms k K) (i:Nat):KRel P pf .m (ms++[i]) (k++[.mark i]) K:=by
 generalize a:Md.m=md at h
 induction h with
 | nilN=>cases a
 | @nilM ms=>have:(KRel P pf .m (ms++[i]) (.code .retM::(ms++[i]).map .mark) []):=.nilM
             simpa using this
 | nilR=>cases a
 | code h t ih=>subst a;exact .code h (ih rfl)
 | inLoop h t ih=>subst a;exact .inLoop h (ih rfl)
 | begin t ih=>cases a
 | inBlock t ih=>subst a;exact .inBlock (ih rfl)
def Ndx (lim:Nat) (σ:PT):List Nat->List Deferred->Prop
 | [],ds=>ds=[]
 | i::l,ds=>∃L a,lim<=i/\σ i=some L/\ds={ target:=.collected L.blk,args:=#[] }::a/\Ndx lim σ l a
theorem Ndx.mono {lim:Nat} {σ τ:PT} (a:PT.le σ τ):∀{l:List Nat} {ds:List Deferred},Ndx lim σ l ds->Ndx lim τ l ds
 | [],_,h=>h
 | i::l,_,⟨L,ds',h0,h1,h2,h3⟩=>⟨L,ds',h0,a _ _ h1,h2,Ndx.mono a h3⟩
theorem Inv.pad (h:Inv (Prg.mk P pf) W lim σ H w) (n:Nat):Inv (Prg.mk P pf) W lim σ (H++List.replicate n .dead) w:=by
 have get:∀(j:Nat) b,(H++List.replicate n Blk.dead)[j]? = some b->alive b=true->H[j]? = some b:=fun j b a c=>by
  by_cases d:j<H.length
  ·rw [Od d] at a;exact a
  ·rw [Og (by omega),P0] at a
   split at a
   ·cases a;simp [alive] at c
   ·cases a
 exact ⟨fun i b a c=>h.blk i b (get i b a c) c,fun i j bi bj Li Lj hi d e ho c=>h.inj i j bi bj Li Lj (get i bi hi (PP ho)) (get j bj d c) e ho c,
  fun i b L a ho=>h.wr i b L (get i b a (PP ho)) ho,h.fresh,fun i hi=>h.dom i (by simp at hi;omega)⟩
theorem Nf4 {fr:Nat->Value} {N:Nat} {a:Act} (h:State (Prg.mk P pf) ds W lim σ N fr H a w) {r:ResultVar} {ar:ARes} (d:Zy P r=some ar) {v:Value} (e:NG fr H ar=some v) :
  ∃v',(match r with | .tmp t=>pure (a.tmps.getD t undef) | .cell b t=>do loadVar t (<-asAddr (a.tmps.getD b undef)):Sem Value).run P w=.ok v' w/\VRel σ v v':=by
 cases r with
 | tmp t=>
   simp only [Zy] at d;cases d
   simp only [NG] at e;cases e
   exact ⟨_,rfl,h.fr.val t⟩
 | cell b t=>
   simp only [Zy] at d
   obtain ⟨n,hn,d⟩:=OD d
   obtain ⟨m,f,d⟩:=OD d
   have g:=h.fr.val b
   cases m with
   | true=>
     simp at d;subst d
     simp only [NG] at e
     split at e
     case h_2=>cases e
     rename_i p hp
     simp only [Nd] at e
     obtain ⟨c,hc,rfl⟩:=e
     rw [hp] at g
     obtain ⟨L,k,l,h2⟩:=g.ptr_left
     obtain ⟨v',i,j⟩:=Nad (P:=P) h.inv f hn k hc
     exact ⟨v',by simp only [h2];simp [asAddr,i],j⟩
   | false=>
     simp at d;subst d
     simp only [NG] at e
     split at e
     case h_2=>cases e
     rename_i p hp
     rw [hp] at g
     obtain ⟨L,k,l,h2⟩:=g.ptr_left
     obtain ⟨v',i,j⟩:=Nae (P:=P) h.inv f k e
     exact ⟨v',by simp only [h2];simp [asAddr,i],j⟩
theorem ZA {fr:Nat->Value} {N:Nat} {a:Act} (g:State (Prg.mk P pf) ds W lim σ N fr H a w):∀{f:List ResultVar} {c:List ARes} {vs:List Value},f.mapM (Zy P)=some c->UK fr H c=some vs->
  ∃d,(f.mapM (fun r=>(match r with | .tmp t=>pure (a.tmps.getD t undef) | .cell b t=>do loadVar t (<-asAddr (a.tmps.getD b undef)):Sem Value))).run P w=.ok d w/\OV σ vs d
 | [],c,vs,h,hv=>by
   simp at h;subst h
   simp [UK] at hv;subst hv
   exact ⟨[],by simp,OV.nil⟩
 | r::f,c,vs,h,hv=>by
   rw [List.mapM_cons] at h
   obtain ⟨b,i,h⟩:=OD h
   obtain ⟨l,e,h⟩:=OD h
   cases h
   simp only [UK] at hv
   split at hv
   case h_2=>cases hv
   rename_i v k h1 h2
   cases hv
   obtain ⟨v',k1,k2⟩:=Nf4 g i h1
   obtain ⟨d,k3,j⟩:=ZA g e h2
   refine ⟨v'::d, ?_,OV.cons k2 j⟩
   rw [List.mapM_cons]
   simp only [Sem.run_bind,k1,k3,Result.andThen_ok,Sem.run_pure]
theorem YJ {fr:Nat->Value} {N:Nat} {a:Act} (e:State (Prg.mk P pf) ds W lim σ N fr H a w) {fn:Func} {d:List ARes} (f:fn.results.toList.mapM (Zy P)=some d) {v:Value} (c:result fr H d=some v) :
  ∃v',(results fn a.tmps).run P w=.ok v' w/\VRel σ v v':=by
 unfold result at c
 cases hr:UK fr H d with
 | none=>rw [hr] at c;cases c
 | some vs=>
   obtain ⟨b,k1,k2⟩:=ZA e f hr
   rw [hr] at c
   unfold results
   rw [Array.mapM_eq_mapM_toList]
   simp only [Sem.run_bind,Sem.run_map]
   erw [k1]
   simp only [Result.andThen_ok,Sem.run_pure]
   refine ⟨_,rfl, ?_⟩
   match vs,b,k2 with
   | [],b,k2=>
     have:b=[]:=by have:=k2.1;simp at this;exact List.length_eq_zero_iff.1 this.symm
     subst this
     simp at c;subst c
     exact .atom rfl
   | [x],b,k2=>
     have hl:=k2.1
     match b,hl,k2 with
     | [y],_,k2=>simp at c;subst c;exact k2.head
   | x::y::zs,b,k2=>
     have hl:=k2.1
     match b,hl,k2 with
     | x'::y'::zs',_,k2=>
       simp at c;subst c
       have:¬((x'::y'::zs').toArray.size=1):=by simp
       rw [dif_neg this]
       exact VRel.tuple_iff.2 k2
theorem Inv.loop (h:Inv (Prg.mk P pf) W lim σ H w) {i:Nat} {x:LoopB} {L:Loc} (b:NC H i=.loop x) (a:σ i=some L):∃lp,w.heap[L.blk]? = some (.loop lp)/\LoopRel (Prg.mk P pf) σ x lp:=by
 obtain ⟨c,h1,h2⟩:=h.blk i _ (Tj b rfl) rfl
 rw [a] at h1;cases h1
 exact h2
theorem Nbz {b:Frame} {a:Act} {todo:List Item} {cs:List Frame}:∀(l:List Nat) (ds:List Deferred) {H H':NB} {w:World},Ndx lim σ l ds->Inv (Prg.mk P pf) W lim σ H w->shut lim l H=some H'->
  ∃w',Steps P (lone { b.atR { a with defers:=ds } todo with mode:=.returning } cs w) (lone { b.atR { a with defers:=[] } todo with mode:=.returning } cs w')/\Inv (Prg.mk P pf) W lim σ H' w'/\Stp W w w'/\H'.length=H.length
 | [],ds,H,H',w,hd,hi,hs=>by
   cases hd;cases hs
   exact ⟨w,.refl _ _,hi,Stp.refl _ _,rfl⟩
 | i::l,ds,H,H',w,hd,hi,hs=>by
   obtain ⟨L,c,d,h1,rfl,g⟩:=hd
   simp only [shut] at hs
   split at hs
   case h_2=>cases hs
   rename_i e
   rw [Nk d] at hs
   obtain ⟨n,g1,f⟩:=hi.blk i _ (Tj e rfl) rfl
   rw [h1] at g1;cases g1
   obtain ⟨j,k⟩:=hi.putLoop (o:=.deferred none) (b':=.dead) e rfl h1 d trivial (fun h=>by simp [alive] at h)
   obtain ⟨w',k1,k2,k3,m⟩:=Nbz l c g j hs
   refine ⟨w',Steps.head (step_collected (fr:={ b.atR { a with defers:=_::c } todo with mode:=.returning }) (by simp) rfl rfl (run_takeDeferred f)) k1,k2,k.trans k3,by simpa using m⟩
theorem Nct (h:Inv (Prg.mk P pf) W lim σ H w) {i:Nat} {L:Loc} (e:σ i=some L) (hl:lim<=i) {j:Option ACode} {J:Option Code}
  (a:match j with | none=>J=none | some c=>∃C,J=some C/\Uh P pf C=some c) {v:Value} (he:endRound i j H=some (v,H')) :
  ∃w',(Instr.endRound L.blk J).run P w=.ok v w'/\VRel σ v v/\Inv (Prg.mk P pf) W lim σ H' w'/\Stp W w w':=by
 unfold endRound at he
 split at he
 case h_2=>cases he
 rename_i x f
 obtain ⟨lp,h1,h2⟩:=h.loop f e
 have d:J.isNone=j.isNone:=by
  cases j with
  | none=>simp only at a;subst a;rfl
  | some c=>obtain ⟨C,rfl,_⟩:=a;rfl
 have b:L.blk<w.heap.size:=(Array.getElem?_eq_some_iff.1 h1).1
 simp only [Option.some.injEq,Prod.mk.injEq] at he
 obtain ⟨rfl,rfl⟩:=he
 obtain ⟨g,k⟩:=h.putLoop (o:=.loop { lp with state:=if J.isNone then .ready else .done,pending:=J }) (b':=.loop { x with st:=if j.isNone then 0 else 2,pend:=j }) f rfl e hl
  ⟨_,World.putObj_heap_same b,by rw [d];cases j<;>rfl,a,h2.size,h2.val,h2.params,h2.assign,h2.body⟩ (fun _=>rfl)
 exact ⟨_,by rw [run_endRound J h1,d],.atom rfl,g,k⟩
end
end Go.AM


