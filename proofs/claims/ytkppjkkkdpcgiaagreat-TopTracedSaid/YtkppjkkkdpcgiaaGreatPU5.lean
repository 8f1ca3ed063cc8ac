/-
  Joined texts, 5 of 10. A part of the claim that the last text states.
-/
import Derived.Test.YtkppjkkkdpcgiaaGreatPU4
set_option linter.unusedVariables false
set_option linter.unusedSimpArgs false
set_option linter.defProp false
set_option linter.unusedSectionVars false
set_option maxRecDepth 100000
set_option maxHeartbeats 4000000
namespace Go.Scan
def bare (e:Ev):Ev:={ e with time:=0 }
theorem Nq1 {M:List Mk} {s:Ev} (h:RG s):0<=TW M s/\TW M s<=s.seen:=by
 unfold RG at h;unfold TW;omega
theorem Nb8 (M:List Mk) (S:List Ev):((RQ M S).map bare).Perm (S.map bare):=by
 have h:=(S9 Sy (S.map fun s=>{ s with time:=TW M s })).map bare
 rw [List.map_map] at h
 exact h
theorem Ngo (S:List Ev):(((NY S).1++(NY S).2).map bare).Perm (S.map bare):=by
 unfold NY
 have h:=VZ (RQ (QG S) S) [] []
 rw [Nc,On] at h
 exact (h.map bare).trans (Nb8 _ S)
theorem Ndk (S:List Ev):(NY S).1.length+(NY S).2.length=S.length:=by
 have:=(Ngo S).length_eq
 simpa using this
theorem Mh (S:List Ev):(NY S).1.Sublist (RQ (QG S) S)/\(NY S).2.Sublist (RQ (QG S) S):=by
 obtain ⟨K,T,h1,h2,a⟩:=Z8 (RQ (QG S) S) [] []
 unfold NY
 rw [h1]
 exact ⟨by simpa using h2,by simpa using a⟩
theorem Nkc (S:List Ev):Y8 (NY S).1/\Y8 (NY S).2:=by
 have h:=Yi (Zr (QG S) S)
 exact ⟨h.sublist (Mh S).1,h.sublist (Mh S).2⟩
theorem Yb {S:List Ev} {x:Ev} (h:x∈(NY S).1\/x∈(NY S).2):∃s∈S,{ s with time:=TW (QG S) s }=x:=by
 rcases h with h | h
 ·exact Xw.mp ((Mh S).1.mem h)
 ·exact Xw.mp ((Mh S).2.mem h)
theorem Nap {S:List Ev} (hS:∀s∈S,RG s) {x:Ev} (h:x∈(NY S).1\/x∈(NY S).2):0<=x.time/\x.time<=x.seen:=by
 obtain ⟨s,hs,rfl⟩:=Yb h
 exact Nq1 (hS s hs)
theorem VG (S:List Ev):((NY S).1.Pairwise fun x y=>QR y=QR x->y.time-x.time > 10)/\∀x∈(NY S).2,∃y∈(NY S).1,QR x=QR y/\x.time>=y.time/\x.time-y.time<=10:=by
 obtain ⟨h1,h2⟩:=Naq (RQ (QG S) S) [] [] List.Pairwise.nil (fun e _ x hx=>(O1 hx).elim) (Yi (Zr _ S)) (fun x hx=>(O1 hx).elim)
 unfold NY
 refine ⟨?_,h2⟩
 unfold ApartL at h1
 rw [List.pairwise_reverse] at h1
 exact h1
theorem Npr (M:List Mk) (S:List Ev):(RQ M S).length=S.length:=by
 have:=(Nb8 M S).length_eq
 simpa using this
end Go.Scan


namespace Go.Net
def Naj:Int->List (Leg×Int)->Prop
 | _,[]=>True
 | t,(l,a)::w=>RJ l t=some a/\Naj (a+l.mins) w
structure BestW (L:List Leg) (p ready q v:Int) (w:List (Leg×Int)):Prop where
 way:Ro L p ready w q v
 few:∀j v',Way L j p ready q v'->v'<=v->w.length<=j
 least:∀w' v',Ro L p ready w' q v'->v'<=v->w'.length=w.length->¬Nln (Zf w') (Zf w)
 next:Naj ready w
theorem Nbb {pos:Int->Nat} {S:List Leg} {late:Nat->List Int}:∀(k:Nat) (p t:Int),Naj t (goW pos S late k p t)
 | 0,_,_=>trivial
 | k+1,p,t=>by
   simp only [goW]
   cases hp:XL pos S (late k) p t with
   | none=>exact Nbb k p t
   | some r=>
     obtain ⟨l,a⟩:=r
     unfold XL at hp
     obtain ⟨f,x,g,e,hx,b⟩:=List.findSome?_eq_some_iff.1 hp
     obtain ⟨h,c,d,i⟩:=Yg hx
     simp only at c d
     subst c
     exact ⟨d,Nbb k l.dst (a+l.mins)⟩
theorem Nl8 {f:Nat->Int} {v:Int}:∀{n:Nat},f n=v->∃k,k<=n/\f k=v/\∀j,j<k->f j≠v
 | 0,h=>⟨0,Nd _,h,fun j a=>by omega⟩
 | n+1,h=>by
   by_cases h1:∃m,m<=n/\f m=v
   ·obtain ⟨m,hm,h2⟩:=h1
    obtain ⟨k,k1,k2,k3⟩:=Nl8 (n:=m) h2
    exact ⟨k,by omega,k2,k3⟩
   ·exact ⟨n+1,Nd _,h,fun j a e=>h1 ⟨j,by omega,e⟩⟩
termination_by n=>n
theorem Nd7:∀{a b:List Int},a.length=b.length->¬Nln a b->¬Nln b a->a=b
 | [],[],_,_,_=>rfl
 | [],_::_,h,_,_=>by simp at h
 | _::_,[],h,_,_=>by simp at h
 | x::a,y::b,h,h1,h2=>by
   simp only [Nln,not_or,not_and] at h1 h2
   have e:x=y:=by omega
   subst e
   rw [Nd7 (by simpa using h) (h1.2 rfl) (h2.2 rfl)]
theorem Nke {L:List Leg} (c:∀a∈L,∀b∈L,a.id=b.id->a=b):∀{w w':List (Leg×Int)} {p q u f t d g i:Int},Ro L p t w q u->Ro L f d w' g i->t=d->Naj t w->Naj d w'->Zf w=Zf w'->w=w'
 | [],[],_,_,_,_,_,_,_,_,_,_,_,_,_,_=>rfl
 | [],_::_,_,_,_,_,_,_,_,_,_,_,_,_,_,h=>by simp [Zf] at h
 | _::_,[],_,_,_,_,_,_,_,_,_,_,_,_,_,h=>by simp [Zf] at h
 | (l,a)::w,(l',a')::w',p,q,u,f,t,d,g,i,h,h',e,n,n',hi=>by
   subst e
   simp only [Zf,N9,List.cons.injEq] at hi
   have:=c l h.1 l' h'.1 hi.1
   subst this
   have ha:=n.1.symm.trans n'.1
   cases ha
   rw [Nke c h.2.2.2.2 h'.2.2.2.2 rfl n.2 n'.2 hi.2]
theorem BestW.uniq {L M:List Leg} {p t q v:Int} {w w':List (Leg×Int)} (hs:∀l,l∈M↔l∈L) (f:∀a∈L,∀b∈L,a.id=b.id->a=b) (h:BestW L p t q v w) (h':BestW M p t q v w'):w=w':=by
 have mono:∀{A B:List Leg},(∀l∈A,l∈B)->∀{w:List (Leg×Int)} {p t q u:Int},Ro A p t w q u->Ro B p t w q u:=by
  intro A B d w
  induction w with
  | nil=>intro p t q u h;exact h
  | cons x w ih=>intro p t q u h;exact ⟨d _ h.1,h.2.1,h.2.2.1,h.2.2.2.1,ih h.2.2.2.2⟩
 have c:Ro L p t w' q v:=mono (fun l hl=>(hs l).1 hl) h'.way
 have hw:Ro M p t w q v:=mono (fun l hl=>(hs l).2 hl) h.way
 have g:=h.few _ _ c.way (Oj _)
 have i:=h'.few _ _ hw.way (Oj _)
 have hl:w.length=w'.length:=by omega
 have e:Zf w=Zf w':=Nd7 (by simp [Zf,hl]) (h'.least _ _ hw (Oj _) hl) (h.least _ _ c (Oj _) hl.symm)
 exact Nke f h.way c rfl h.next h'.next e
theorem Nzc {N:Nat} {P:List Int} {L S:List Leg} {pos:Int->Nat} {p q ready v:Int} {late:Nat->List Int} {k:Nat} (hn:NetOk N P L pos) (hp:p∈P) (n:q∈P) (hr:0<=ready) (f:0<=v)
  (hS:∀l,l∈S↔l∈L) (hs:S.Pairwise fun a b=>a.id<b.id) (d:∀k,late k=MP N pos L q v k) (hv:Tq L p ready q v)
  (hk:(R5 N pos (ready+86400) L p ready k).getD (pos q) (-1)=v) (m:∀j,j<k->(R5 N pos (ready+86400) L p ready j).getD (pos q) (-1)≠v) :
  BestW L p ready q v (goW pos S late k p ready)/\(goW pos S late k p ready).length=k:=by
 obtain ⟨_,y⟩:=hv.mem f
 have few:∀j v',Way L j p ready q v'->v'<=v->k<=j:=by
  intro j v' hw c
  apply Of;intro hc
  have hm:=WY hn hp hr (by omega:ready<=ready+86400) j q n
  have h1:=hm.le (u:=v') ⟨⟨j,Nd _,hw⟩,by omega⟩
  have h2:0<=(R5 N pos (ready+86400) L p ready j).getD (pos q) (-1):=by
   apply Of;intro x
   exact hm.none (fun u ⟨⟨i,_,hw⟩,_⟩=>by have:=hw.later hn.fine;omega) (by omega) v' ⟨⟨j,Nd _,hw⟩,by omega⟩
  obtain ⟨⟨i,hi,r⟩,h⟩:=hm.mem h2
  have A:=hv.le (u:=(R5 N pos (ready+86400) L p ready j).getD (pos q) (-1)) ⟨⟨i,r⟩,h⟩
  exact m j (by omega) (by omega)
 have hm:=WY hn hp hr (by omega:ready<=ready+86400) k q n
 rw [hk] at hm
 obtain ⟨⟨i,hi,hw⟩,_⟩:=hm.mem f
 have g:i=k:=by have:=few i v hw (Oj _);omega
 subst g
 obtain ⟨s,⟨v',z,t⟩,w⟩:=Nl0 hn n f hS hs d i p ready hp hr ⟨v,Oj _,hw⟩
 have e:v'=v:=by
  have:=hv.le (u:=v') ⟨⟨_,t.way⟩,by omega⟩
  omega
 subst e
 exact ⟨⟨t,fun j v' hw c=>by rw [s];exact few j v' hw c,fun w' v' o c hl=>w w' ready v' (Oj _) o c (by omega),Nbb _ _ _⟩,s⟩
theorem Ro.sub {L M:List Leg}:∀{w:List (Leg×Int)} {p t q u:Int},Ro L p t w q u->(∀x∈w,x.1∈M)->Ro M p t w q u
 | [],_,_,_,_,h,_=>h
 | (l,a)::w,_,_,_,_,h,hm=>⟨hm (l,a) (Nm ..),h.2.1,h.2.2.1,h.2.2.2.1,h.2.2.2.2.sub fun x hx=>hm x (Nj _ hx)⟩
theorem Ro.mem {L:List Leg}:∀{w:List (Leg×Int)} {p t q u:Int},Ro L p t w q u->∀x∈w,x.1∈L
 | (l,a)::w,_,_,_,_,h,x,hx=>by
   rcases Nn.1 hx with rfl | hx
   ·exact h.1
   ·exact h.2.2.2.2.mem x hx
theorem Tq.nonneg {L:List Leg} {p t q u v:Int} {j:Nat} (h:Tq L p t q v) (hL:∀l∈L,Fine l) (ht:0<=t) (hw:Way L j p t q u) (a:u<=t+86400):0<=v:=by
 apply Of;intro hc
 exact h.none (fun u ⟨⟨j,hw⟩,_⟩=>by have:=hw.later hL;omega) (by omega) u ⟨⟨j,hw⟩,a⟩
end Go.Net


