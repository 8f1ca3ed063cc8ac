/-
  Joined texts, 3 of 10. A part of the claim that the last text states.
-/
import Derived.Laws.IdiomRangeMap
import Derived.Below
import Derived.Sort.AssemblyPlain
import Derived.Test.YtkppjkkkdpcgiaaGreatPC2
set_option linter.unusedVariables false
set_option linter.unusedSimpArgs false
set_option linter.defProp false
set_option linter.unusedSectionVars false
set_option maxRecDepth 100000
set_option maxHeartbeats 4000000
namespace Go.AM
def CLe (C a:Uc):Prop:=∀mp lim g as H r,C mp lim g as H=some r->a mp lim g as H=some r
theorem Nb6 {C c:Uc} (h:CLe C c) {lim:Nat} {dest:Option Nat} {o:AOp} {ρ:Operand->Value} {H:NE} {r} (a:RB C lim dest o ρ H=some r):RB c lim dest o ρ H=some r:=by
 by_cases hc:∃mp f args,o=.call mp f args
 ·obtain ⟨mp,f,args,rfl⟩:=hc
  simp only [RB] at a⊢
  split at a
  ·exact Nvp (fun p hp=>h _ _ _ _ _ _ hp) a
  ·cases a
 ·have b:∀mp f args,o≠.call mp f args:=fun mp f args e=>hc ⟨mp,f,args,e⟩
  rw [OT b] at a⊢
  exact a
theorem Mo {C c:Uc} (h:CLe C c) {N lim:Nat} {base:Option Nat} {i:AIns} {fr:Nat->Value} {H:NE} {r} (a:TP C N lim base i fr H=some r):TP c N lim base i fr H=some r:=by
 unfold TP at a⊢
 cases hv:Tc C N lim base i fr H with
 | none=>rw [hv] at a;cases a
 | some p=>
   have:Tc c N lim base i fr H=some p:=by
    unfold Tc at hv⊢
    cases hw:RX N fr i.guard with
    | none=>rw [hw] at hv;cases hv
    | some b=>
      rw [hw] at hv
      cases b with
      | false=>exact hv
      | true=>
        cases base with
        | none=>exact Nb6 h hv
        | some b=>
          simp only at hv⊢
          cases hs:RB C lim (i.dest.map (b+·)) i.op (ev fr) (OD b i.mask H) with
          | none=>rw [hs] at hv;cases hv
          | some q=>rw [hs] at hv;rw [Nb6 h hs];exact hv
   rw [hv] at a
   rw [this]
   exact a
theorem Zn {α β:Type} {f:α->Option β}:∀{l:List α} {r:List β},YA f l=some r->∀y∈r,∃x∈l,f x=some y
 | [],r,h,y,hy=>by cases h;cases hy
 | x::l,r,h,y,hy=>by
   simp only [YA] at h
   split at h
   ·rename_i a b c d
    cases h
    rcases Nr.1 hy with rfl | hy
    ·exact ⟨x,by simp,c⟩
    ·obtain ⟨z,g,e⟩:=Zn d y hy
     exact ⟨z,by simp [g],e⟩
   ·cases h
theorem Y9 {α β:Type} {f:α->Option β}:∀{l:List α} {r:List β},YA f l=some r->∀x∈l,∃y∈r,f x=some y
 | [],r,h,x,hx=>by cases hx
 | z::l,r,h,x,hx=>by
   simp only [YA] at h
   split at h
   ·rename_i a b c d
    cases h
    rcases Nr.1 hx with rfl | hx
    ·exact ⟨a,by simp,c⟩
    ·obtain ⟨y,g,e⟩:=Y9 d x hx
     exact ⟨y,by simp [g],e⟩
   ·cases h
theorem Vh {α β:Type} {f:α->Option (List β)}:∀{l:List α} {r:List β},Ua f l=some r->∀x∈l,∃s,f x=some s/\∀y∈s,y∈r
 | [],r,h,x,hx=>by cases hx
 | z::l,r,h,x,hx=>by
   simp only [Ua] at h
   split at h
   ·rename_i a b d g
    cases h
    rcases Nr.1 hx with rfl | hx
    ·exact ⟨a,d,fun y c=>by simp [c]⟩
    ·obtain ⟨s,hs,e⟩:=Vh g x hx
     exact ⟨s,hs,fun y c=>by simp [e y c]⟩
   ·cases h
theorem Vj {α β:Type} {f:α->Option (List β)}:∀{l:List α} {r:List β},Ua f l=some r->∀y∈r,∃x∈l,∃s,f x=some s/\y∈s
 | [],r,h,y,hy=>by cases h;cases hy
 | z::l,r,h,y,hy=>by
   simp only [Ua] at h
   split at h
   ·rename_i a b c d
    cases h
    rcases Od.1 hy with hy | hy
    ·exact ⟨z,by simp,a,c,hy⟩
    ·obtain ⟨x,g,s,e,hs⟩:=Vj d y hy
     exact ⟨x,by simp [g],s,e,hs⟩
   ·cases h
theorem Yc {α β:Type} {f g:α->Option (List β)}:∀{l:List α} {r:List β},(∀x∈l,∀s,f x=some s->g x=some s)->Ua f l=some r->Ua g l=some r
 | [],r,_,h=>h
 | z::l,r,hfg,h=>by
   simp only [Ua] at h⊢
   split at h
   ·rename_i a b c d
    rw [hfg z (by simp) a c,Yc (fun x e=>hfg x (by simp [e])) d]
    exact h
   ·cases h
theorem Vs {α:Type} {r:Option α} {L:List α} (h:one r=some L):∃x,r=some x/\L=[x]:=by
 cases r with
 | none=>cases h
 | some x=>cases h;exact ⟨x,rfl,rfl⟩
theorem SQ {α:Type} {r:Option (List α)} {x:α} (h:oneOf r=some x):r=some [x]:=by
 unfold oneOf at h
 split at h
 ·cases h;rfl
 ·cases h
def Nn5 (C a:Tw):Prop:=∀mp lim g as H r,C mp lim g as H=some r->a mp lim g as H=some r
theorem Nn5.det {C a:Tw} (h:Nn5 C a):CLe (det C) (det a):=fun mp lim g as H r b=>by
 unfold AM.det at b⊢
 rw [h _ _ _ _ _ _ (SQ b)]
 rfl
theorem Noh {C b:Tw} (h:Nn5 C b) {lim:Nat} {o:AOp} {ρ:Operand->Value} {H:NE} {r} (a:Yv C lim o ρ H=some r):Yv b lim o ρ H=some r:=by
 by_cases hc:∃mp f args,o=.call mp f args
 ·obtain ⟨mp,f,args,rfl⟩:=hc
  simp only [Yv] at a⊢
  split at a
  ·split at a
   ·rename_i L hL
    rw [h _ _ _ _ _ _ hL]
    exact a
   ·cases a
  ·cases a
 ·cases o<;>first | exact a | exact absurd ⟨_,_,_,rfl⟩ hc
theorem Nof {C b:Tw} (h:Nn5 C b) {lim:Nat} {i:AIns} {ρ:Operand->Value} {H:NE} {r} (a:stepX C lim i ρ H=some r):stepX b lim i ρ H=some r:=by
 obtain ⟨d,g,o,c,m⟩:=i
 unfold stepX at a⊢
 cases c with
 | none=>exact Noh h a
 | some k=>exact a
theorem Nbs {C c:Tw} (h:Nn5 C c) {N lim:Nat} {i:AIns} {fr:Nat->Value} {H:NE} {r} (a:Mm C N lim i fr H=some r):Mm c N lim i fr H=some r:=by
 unfold Mm at a⊢
 cases hw:RX N fr i.guard with
 | none=>rw [hw] at a;cases a
 | some b=>
   rw [hw] at a
   cases b with
   | false=>exact a
   | true=>
     simp only at a⊢
     split at a
     ·rename_i L hL
      rw [Nof h hL]
      exact a
     ·cases a
theorem WT {E:Env} {run b:AFunc->Nat->List AItem->(Nat->Value)->NE->Option (List (Value×NE))} (h:∀af lim k fr H r,run af lim k fr H=some r->b af lim k fr H=some r):Nn5 (QZ E run) (QZ E b):=by
 intro mp lim g as H r a
 unfold QZ at a⊢
 cases g with
 | inr i=>
   simp only at a⊢
   split at a
   ·cases a
   rename_i c
   rw [Ng c]
   split at a
   ·split at a
    ·rename_i hc
     rw [Ni hc]
     exact h _ _ _ _ _ _ a
    ·cases a
   ·cases a
 | inl g=>
 simp only at a⊢
 split at a
 ·exact a
 split at a
 ·exact a
 ·split at a
  ·cases a
  ·rename_i af d
   split at a
   ·rename_i hp
    rw [Ni hp]
    split at a
    ·rename_i v H1 l h1
     rw [h _ _ _ _ _ _ h1]
     exact a
    ·cases a
   ·rename_i hp
    rw [Ng hp]
    split at a
    ·cases a
    ·rename_i c
     rw [Ng c]
     exact h _ _ _ _ _ _ a
theorem Nii (E:Env):∀(n:Nat) (af:AFunc) (lim:Nat) (k:List AItem) (fr:Nat->Value) (H:NE) (r),OY E n af lim k fr H=some r->OY E (n+1) af lim k fr H=some r
 | 0,_,_,_,_,_,_,h=>by simp [OY] at h
 | n+1,af,lim,k,fr,H,r,h=>by
   have ih:=Nii E n
   rw [OY.eq_def] at h⊢
   simp only at h⊢
   cases k with
   | nil=>exact h
   | cons x k=>
     cases x with
     | inBlock id=>exact ih _ _ _ _ _ _ h
     | inLoop c=>exact ih _ _ _ _ _ _ h
     | begin i=>
       simp only at h⊢
       split at h
       ·split at h
        ·rename_i hc
         rw [Ni hc]
         exact ih _ _ _ _ _ _ h
        ·cases h
       ·cases h
     | round i=>exact h
     | mark i=>exact h
     | ops base l=>
       have e:=WT (E:=E) fun d lim' k' fr' H' r h=>ih d lim' k' fr' H' r h
       cases l with
       | nil=>cases base<;>exact ih _ _ _ _ _ _ h
       | cons i l=>
         cases base with
         | none=>
           simp only at h⊢
           split at h
           ·rename_i L g
            rw [Nbs e g]
            exact Yc (fun r _ s hs=>ih _ _ _ _ _ _ hs) h
           ·cases h
         | some b=>
           simp only at h⊢
           split at h
           ·rename_i fr' H' g
            rw [Mo e.det g]
            exact ih _ _ _ _ _ _ h
           ·cases h
     | code c=>
       cases c<;>simp only at h⊢<;> first
        | exact ih _ _ _ _ _ _ h
        | exact h
        | skip
       case cond c a b=>
        cases hc:ev fr c<;>rw [hc] at h<;>first
         | (rename_i b;cases b<;>exact ih _ _ _ _ _ _ h)
         | (cases h;done)
       case exit id=>
        split at h
        ·exact ih _ _ _ _ _ _ h
        ·cases h
       case exitR id=>
        split at h
        ·exact ih _ _ _ _ _ _ h
        ·exact h
       case rangeF f ps a b=>
        split at h
        ·split at h
         ·rename_i L g
          rw [WT (fun d lim' k' fr' H' r h=>ih _ _ _ _ _ _ h) _ _ _ _ _ _ g]
          simp only
          refine Yc (fun r _ s hs=>?_) h
          split at hs
          ·rename_i x m
           split at hs
           ·cases hs
           ·rename_i j
            rw [Ng j]
            exact ih _ _ _ _ _ _ hs
          ·cases hs
         ·cases h
        ·cases h
theorem VP (E:Env) {n m:Nat} (h:n<=m) {af:AFunc} {lim:Nat} {k:List AItem} {fr:Nat->Value} {H:NE} {r} (a:OY E n af lim k fr H=some r):OY E m af lim k fr H=some r:=by
 induction h with
 | refl=>exact a
 | step _ ih=>exact Nii E _ _ _ _ _ _ _ ih
theorem Wn (E:Env) {n m:Nat} (h:n<=m):Nn5 (R4 E n) (R4 E m):=WT fun _ _ _ _ _ _ a=>VP E h a
theorem Nhn (E:Env):∀(l:List AIns) (n:Nat) (af:AFunc) (lim b:Nat) (k:List AItem) (fr:Nat->Value) (H:NE) (r),OY E n af lim (.ops (some b) l::k) fr H=some r->
  ∃m fr' H',m<n/\YP (det (R4 E (n-1))) af.ntmps lim (some b) l fr H=some (fr',H')/\OY E m af lim k fr' H'=some r
 | l,0,af,lim,b,k,fr,H,r,h=>by simp [OY] at h
 | [],n+1,af,lim,b,k,fr,H,r,h=>by
   rw [OY.eq_def] at h
   exact ⟨n,fr,H,by omega,rfl,h⟩
 | i::l,n+1,af,lim,b,k,fr,H,r,h=>by
   rw [OY.eq_def] at h
   simp only at h
   split at h
   ·rename_i fr1 H1 g
    obtain ⟨m,fr',H',h1,h2,e⟩:=Nhn E l n af lim b k fr1 H1 r h
    refine ⟨m,fr',H',by omega, ?_,e⟩
    have a:TP (det (R4 E (n+1-1))) af.ntmps lim (some b) i fr H=some (fr1,H1):=g
    simp only [YP,a]
    have mono:∀(l:List AIns) (fr:Nat->Value) (H:NE) r,YP (det (R4 E (n-1))) af.ntmps lim (some b) l fr H=some r->YP (det (R4 E (n+1-1))) af.ntmps lim (some b) l fr H=some r:=by
     intro l
     induction l with
     | nil=>intro fr H r h;exact h
     | cons i l ih=>
       intro fr H r h
       obtain ⟨f,K,c,d⟩:=Xt h
       simp only [YP,Mo (Wn E (show n-1<=n+1-1 by omega)).det c]
       exact ih _ _ _ d
    exact mono _ _ _ _ h2
   ·cases h
def Yi (C:Tw) (N lim:Nat):List AIns->(Nat->Value)->NE->Option (List ((Nat->Value)×NE))
 | [],fr,H=>some [(fr,H)]
 | i::l,fr,H=>match Mm C N lim i fr H with
   | some L=>Ua (fun r=>Yi C N lim l r.1 r.2) L
   | none=>none
theorem Nfs {C a:Tw} (h:Nn5 C a) {N lim:Nat}:∀{l:List AIns} {fr:Nat->Value} {H:NE} {r},Yi C N lim l fr H=some r->Yi a N lim l fr H=some r
 | [],fr,H,r,hx=>hx
 | i::l,fr,H,r,hx=>by
   simp only [Yi] at hx⊢
   split at hx
   ·rename_i L hL
    rw [Nbs h hL]
    exact Yc (fun x _ s hs=>Nfs h hs) hx
   ·cases hx
theorem Yb {α β:Type} {f:α->Option (List β)}:∀{l:List α},(∀x∈l,∃s,f x=some s)->∃r,Ua f l=some r
 | [],_=>⟨[],rfl⟩
 | x::l,h=>by
   obtain ⟨s,hs⟩:=h x (by simp)
   obtain ⟨r,hr⟩:=Yb (f:=f) (l:=l) fun y a=>h y (by simp [a])
   exact ⟨s++r,by simp only [Ua,hs,hr]⟩
theorem Nev (E:Env):∀(l:List AIns) (n:Nat) (af:AFunc) (lim:Nat) (k:List AItem) (fr:Nat->Value) (H:NE) (R),OY E n af lim (.ops none l::k) fr H=some R->
  ∃L,Yi (R4 E (n-1)) af.ntmps lim l fr H=some L/\∀r∈L,∃m b,m<n/\OY E m af lim k r.1 r.2=some b/\∀x∈b,x∈R
 | l,0,af,lim,k,fr,H,R,h=>by simp [OY] at h
 | [],n+1,af,lim,k,fr,H,R,h=>by
   rw [OY.eq_def] at h
   refine ⟨[(fr,H)],rfl,fun r hr=>?_⟩
   rw [Nj] at hr
   subst hr
   exact ⟨n,R,by omega,h,fun x j=>j⟩
 | i::l,n+1,af,lim,k,fr,H,R,h=>by
   rw [OY.eq_def] at h
   simp only at h
   split at h
   case h_2=>cases h
   rename_i L hL
   have d:Mm (R4 E (n+1-1)) af.ntmps lim i fr H=some L:=hL
   have each:∀r∈L,∃a,Yi (R4 E (n+1-1)) af.ntmps lim l r.1 r.2=some a/\∀q∈a,∃m b,m<n+1/\OY E m af lim k q.1 q.2=some b/\∀x∈b,x∈R:=fun r hr=>by
    obtain ⟨s,hs,c⟩:=Vh h r hr
    obtain ⟨a,h1,h2⟩:=Nev E l n af lim k r.1 r.2 s hs
    refine ⟨a,Nfs (Wn E (by omega)) h1,fun q e=>?_⟩
    obtain ⟨m,b,u,p,t⟩:=h2 q e
    exact ⟨m,b,by omega,p,fun x j=>c x (t x j)⟩
   obtain ⟨Q,o⟩:=Yb (f:=fun r:(Nat->Value)×NE=>Yi (R4 E (n+1-1)) af.ntmps lim l r.1 r.2) (l:=L) fun r hr=>by
    obtain ⟨a,h1,_⟩:=each r hr
    exact ⟨a,h1⟩
   refine ⟨Q,by simp only [Yi,d,o],fun q e=>?_⟩
   obtain ⟨r,hr,s,hs,g⟩:=Vj o q e
   obtain ⟨a,h1,h2⟩:=each r hr
   rw [h1] at hs
   cases hs
   exact h2 q g
theorem Njo {α β:Type} {f:α->Option β} {l:List α} {r:List β} (h:YA f l=some r) (hl:l≠[]):r≠[]:=by
 cases l with
 | nil=>exact absurd rfl hl
 | cons x l=>
   obtain ⟨y,a,_⟩:=Y9 h x (by simp)
   intro e;rw [e] at a;cases a
theorem Nnq {α β:Type} {f:α->Option (List β)} {l:List α} {r:List β} (h:Ua f l=some r) (hl:l≠[]) (b:∀x∈l,∀s,f x=some s->s≠[]):r≠[]:=by
 cases l with
 | nil=>exact absurd rfl hl
 | cons x l=>
   obtain ⟨s,hs,a⟩:=Vh h x (by simp)
   obtain ⟨y,c⟩:=Q9 _ (b x (by simp) s hs)
   intro e;have:=a y c;rw [e] at this;cases this
theorem N4v {C:Tw} (d:∀mp lim g as H L,C mp lim g as H=some L->L≠[]) {N lim:Nat} {i:AIns} {fr:Nat->Value} {H:NE} {L} (h:Mm C N lim i fr H=some L):L≠[]:=by
 have b:∀{α:Type} {r:Option α} {L:List α},r.map (fun r=>[r])=some L->L≠[]:=fun {α r L} h=>by
  simp only [Nc] at h
  obtain ⟨p,_,rfl⟩:=h
  simp
 unfold Mm at h
 split at h
 ·cases h
 ·simp only [Nc] at h;obtain ⟨_,_,rfl⟩:=h;simp
 ·split at h
  case h_2=>cases h
  rename_i L0 a
  refine Njo h ?_
  unfold stepX at a
  split at a
  ·unfold Yv at a
   split at a
   ·split at a
    case h_2=>cases a
    split at a
    case h_2=>cases a
    rename_i e c
    exact Njo a (d _ _ _ _ _ _ c)
   ·exact b a
  unfold Nd7 at a
  split at a
  ·exact b a
  ·unfold ZN at a
   repeat' (split at a)
   all_goals first
    | (cases a;done)
    | (cases a;simp;done)
    | exact Njo a (by simp)
  ·exact b a
  ·cases a
theorem Ncw {E:Env} {run:AFunc->Nat->List AItem->(Nat->Value)->NE->Option (List (Value×NE))} (h:∀af lim k fr H L,run af lim k fr H=some L->L≠[]):∀mp lim g as H L,QZ E run mp lim g as H=some L->L≠[]:=by
 intro mp lim g as H L a
 unfold QZ at a
 cases g with
 | inr i=>
   simp only at a
   repeat' (split at a)
   all_goals first | (cases a;done) | exact h _ _ _ _ _ _ a
 | inl g=>
   simp only at a
   repeat' (split at a)
   all_goals first | (cases a;done) | (cases a;simp;done) | exact h _ _ _ _ _ _ a
theorem Zz (E:Env):∀(n:Nat) (af:AFunc) (lim:Nat) (k:List AItem) (fr:Nat->Value) (H:NE) (L),OY E n af lim k fr H=some L->L≠[]
 | 0,_,_,_,_,_,_,h=>by simp [OY] at h
 | n+1,af,lim,k,fr,H,L,h=>by
   have ih:=Zz E n
   have e:=Ncw (E:=E) ih
   have d:∀{r:Option (Value×NE)},one r=some L->L≠[]:=fun h=>by obtain ⟨x,_,rfl⟩:=Vs h;simp
   rw [OY.eq_def] at h
   simp only at h
   cases k with
   | nil=>exact d h
   | cons x k=>
     cases x with
     | inBlock id=>exact ih _ _ _ _ _ _ h
     | inLoop c=>exact ih _ _ _ _ _ _ h
     | begin i=>
       simp only at h
       split at h
       ·split at h
        ·exact ih _ _ _ _ _ _ h
        ·cases h
       ·cases h
     | round i=>
       simp only at h
       split at h
       ·exact d h
       ·cases h
     | mark i=>simp at h
     | ops base l=>
       cases l with
       | nil=>cases base<;>exact ih _ _ _ _ _ _ h
       | cons i l=>
         cases base with
         | none=>
           simp only at h
           split at h
           ·rename_i L0 g
            exact Nnq h (N4v e g) fun r _ s hs=>ih _ _ _ _ _ _ hs
           ·cases h
         | some b=>
           simp only at h
           split at h
           ·exact ih _ _ _ _ _ _ h
           ·cases h
     | code c=>
       cases c<;>simp only at h<;>first
        | exact ih _ _ _ _ _ _ h
        | exact d h
        | skip
       case cond c a b=>
        cases hc:ev fr c<;>rw [hc] at h<;>first
         | (rename_i b;cases b<;>exact ih _ _ _ _ _ _ h)
         | (cases h;done)
       case exit id=>
        split at h
        ·exact ih _ _ _ _ _ _ h
        ·cases h
       case retM=>
        split at h
        ·exact d h
        ·cases h
       case retR=>
        split at h
        ·split at h
         ·exact d h
         ·cases h
        ·cases h
       case exitR id=>
        split at h
        ·exact ih _ _ _ _ _ _ h
        ·split at h
         ·split at h
          ·exact d h
          ·cases h
         ·cases h
       case rangeF f ps a b=>
        split at h
        ·split at h
         ·rename_i L0 g
          refine Nnq h (e _ _ _ _ _ _ g) fun r _ s hs=>?_
          split at hs
          ·split at hs
           ·cases hs
           ·exact ih _ _ _ _ _ _ hs
          ·cases hs
         ·cases h
        ·cases h
theorem N2t (E:Env) {n:Nat} {mp:Bool} {lim:Nat} {g:FuncId ⊕ Nat} {as:List Value} {H:NE} {L} (h:R4 E n mp lim g as H=some L):L≠[]:=Ncw (Zz E n) _ _ _ _ _ _ h
theorem Niv {lim:Nat} {H H':NE} {a:Addr} {vs:List Value} (h:storeAt lim H a vs=some H'):H.length<=H'.length:=by rw [Ux h];exact Nd _
theorem VS {dest:Option Nat} {b:Blk} {H:NE}:H.length<=(place dest b H).2.length:=by
 cases dest<;>simp [place]
theorem Nik {o:AOp} (hL:isL o=false) {lim:Nat} {dest:Option Nat} {ρ:Operand->Value} {H H':NE} {v:Value} (hn:kind o≠.n) (h:NJ lim dest o ρ H=some (v,H')):H.length<=H'.length:=by
 cases hk:kind o with
 | n=>exact absurd hk hn
 | p=>rw [(N02 hk h).1];exact Nd _
 | r=>
   by_cases hc:∃mp f args,o=.call mp f args
   ·obtain ⟨mp,f,args,rfl⟩:=hc;simp [NJ] at h
   ·rw [YE hk (fun mp f args e=>hc ⟨mp,f,args,e⟩) h];exact Nd _
 | c=>
   cases o<;>simp [kind] at hk
   simp [NJ] at h
 | a=>
   cases o<;>simp [kind] at hk<;>simp only [NJ] at h
   case alloc=>cases h;exact VS
   case box=>
    split at h
    case isFalse=>cases h
    cases h;exact VS
   case buildSlice=>
    split at h
    case h_2=>cases h
    cases h;exact VS
   case makeSlice=>
    split at h
    case h_2=>cases h
    split at h
    case isFalse=>cases h
    cases h;exact VS
   case growNil=>
    split at h
    case h_2=>cases h
    split at h
    case isFalse=>cases h
    cases h;exact VS
   case makeMap=>
    split at h
    case h_2=>cases h
    cases h;exact VS
   case call mp f args=>split at hk<;>cases hk
 | s=>
   have hs:=Vu hk
   cases o<;>simp [WA] at hs
   have h':=WI h
   simp only [Z8] at h'
   rw [YD (o:=.store _ _ _) rfl rfl h'];exact Nd _
 | w=>
   cases hm:makes o with
   | false=>rw [YD hk hm h];exact Nd _
   | true=>
     cases dest with
     | some d=>rw [XL hk h];exact Nd _
     | none=>
       have b:∃esz bytes str s x,o=.append esz bytes str s x:=by
        cases o<;>simp [makes,kind] at hm<;>(try (simp [kind] at hk;done))
        case append=>exact ⟨_,_,_,_,_,rfl⟩
        case appendL=>simp [isL] at hL
        all_goals (exfalso;simp [kind] at hk;try (split at hk<;>cases hk))
       obtain ⟨esz,bytes,str,s,x,rfl⟩:=b
       simp only [NJ] at h
       unfold PQ at h
       split at h
       case h_2=>cases h
       split at h
       ·cases h
       split at h
       ·cases h;exact Nd _
       split at h
       ·split at h
        ·cases h;simp [place]
        ·cases h
       ·split at h
        ·cases h
        split at h
        ·split at h
         ·split at h
          ·cases h;simp [place]
          ·cases h
         ·cases h
        ·split at h
         ·split at h
          ·split at h
           ·rename_i h1;cases h;exact Niv h1
           ·cases h
          ·cases h;simp [place]
         ·cases h
theorem Nny {o:AOp} {lim:Nat} {dest:Option Nat} {ρ:Operand->Value} {H H':NE} {v:Value} (hn:kind o≠.n) (h:NJ lim dest o ρ H=some (v,H')):H.length<=H'.length:=by
 cases hL:isL o with
 | false=>exact Nik hL hn h
 | true=>obtain ⟨_,_,h1,h2,_⟩:=Ndn hL;exact Nik h1 (by rw [h2];simp) (WI h)
theorem Nsz {o:AOp} {lim:Nat} {dest:Option Nat} {ρ:Operand->Value} {H H':NE} {v:Value} (h:NJ lim dest o ρ H=some (v,H')):H.length<=H'.length:=by
 by_cases hn:kind o=.n
 ·cases o<;>(try (simp [kind] at hn;done))
  ·exact Nny (by simp [Z8,kind]) (WI h)
  ·rename_i mp f as'
   cases mp<;>simp [kind,CM.isPure] at hn
 ·exact Nny hn h
def Ngr (C:Uc):Prop:=∀mp lim g as H v H',C mp lim g as H=some (v,H')->lim<=H.length->H.length<=H'.length/\Grow lim H H'
theorem Nb7 {C:Uc} (j:Ngr C) {lim:Nat} {dest:Option Nat} {o:AOp} {ρ:Operand->Value} {H H':NE} {v:Value} (h:RB C lim dest o ρ H=some (v,H')) (hd:∀d,dest=some d->lim<=d) (hl:lim<=H.length) :
  H.length<=H'.length/\Grow lim H H':=by
 by_cases hc:∃mp f args,o=.call mp f args
 ·obtain ⟨mp,f,args,rfl⟩:=hc
  simp only [RB] at h
  split at h
  ·obtain ⟨a,b⟩:=CM.lim_le mp hl
   obtain ⟨g,i⟩:=j _ _ _ _ _ _ _ (Td h).1 b
   exact ⟨g,i.weaken a⟩
  ·cases h
 ·have c:∀mp f args,o≠.call mp f args:=fun mp f args e=>hc ⟨mp,f,args,e⟩
  rw [OT c] at h
  exact ⟨Nsz h,Ngf h hd hl⟩
theorem Nkp {lim base:Nat} {l:List Nat} {H X:NE} (g:lim<=base) (h:Grow lim (OD base l H) X):Grow lim H (NZ base l H X):=⟨fun j b c f=>by
 by_cases hj:∃i∈l,base+i=j
 ·have d:j<X.length:=by
   have:=(List.getElem?_eq_some_iff.1 c).1
   rw [PH] at this;exact this
  rw [Sj base H l X hj d] at c
  simp only [Option.some.injEq] at c
  exact .inl (RQ c f)
 ·have a:∀i∈l,base+i≠j:=fun i hi e=>hj ⟨i,hi,e⟩
  rw [R8 base H l X a] at c
  rcases h j b c f with h1 | h1
  ·rw [QY base l H a] at h1;exact .inl h1
  ·exact .inr h1,fun j hj=>by
 have a:∀i∈l,base+i≠j:=fun i hi e=>by omega
 rw [R8 base H l X a,h.keep j hj,QY base l H a]⟩
theorem Nfd {C:Uc} (c:Ngr C) {N lim:Nat} {base:Option Nat} {i:AIns} {fr fr':Nat->Value} {H H':NE} (h:TP C N lim base i fr H=some (fr',H')) (g:∀b,base=some b->lim<=b) (hl:lim<=H.length) :
  H.length<=H'.length/\Grow lim H H':=by
 unfold TP at h
 cases hv:Tc C N lim base i fr H with
 | none=>rw [hv] at h;cases h
 | some p=>
   obtain ⟨v,K⟩:=p
   rw [hv] at h
   simp only [Nc,Prod.mk.injEq] at h
   obtain ⟨f,k,rfl,rfl⟩:=h
   unfold Tc at hv
   cases hw:RX N fr i.guard with
   | none=>rw [hw] at hv;cases hv
   | some b=>
     rw [hw] at hv
     cases b with
     | false=>cases hv;exact ⟨Nd _,Grow.refl _ _⟩
     | true=>
       cases base with
       | none=>exact Nb7 c hv (fun d e=>by cases e) hl
       | some b=>
         simp only at hv
         cases hs:RB C lim (i.dest.map (b+·)) i.op (ev fr) (OD b i.mask H) with
         | none=>rw [hs] at hv;cases hv
         | some q=>
           obtain ⟨l,X⟩:=q
           rw [hs] at hv
           cases hv
           obtain ⟨a,j⟩:=Nb7 c hs (fun d e=>by
            simp only [Nc] at e
            obtain ⟨r,_,rfl⟩:=e
            have:=g b rfl
            omega) (by rw [OW];exact hl)
           exact ⟨by rw [PH];rw [OW] at a;exact a,Nkp (g b rfl) j⟩
theorem Nee {lim i:Nat} {H:NE} {b:Blk} (h:lim<=i) (ho:owned b=true):H.length<=(H.set i b).length/\Grow lim H (H.set i b):=⟨by simp,Grow.set h fun _=>ho⟩
theorem Nhg {lim:Nat}:∀{l:List Nat} {H H':NE},shut lim l H=some H'->H.length<=H'.length/\Grow lim H H'
 | [],H,H',h=>by cases h;exact ⟨Nd _,Grow.refl _ _⟩
 | i::l,H,H',h=>by
   simp only [shut] at h
   split at h
   ·split at h
    ·rename_i hl
     obtain ⟨h1,h2⟩:=Nhg h
     exact ⟨by simpa using h1,(Grow.set (b:=.dead) hl fun h=>by simp [alive] at h).trans h2⟩
    ·cases h
   ·cases h
theorem Ng0 {lim i:Nat} {j:Option ACode} {H H':NE} {v:Value} (hl:lim<=i) (h:endRound i j H=some (v,H')):H.length<=H'.length/\Grow lim H H':=by
 unfold endRound at h
 split at h
 ·cases h;exact Nee hl rfl
 ·cases h
def TY (C:Tw):Prop:=∀mp lim g as H L,C mp lim g as H=some L->lim<=H.length->∀r∈L,H.length<=r.2.length/\Grow lim H r.2
theorem TY.det {C:Tw} (h:TY C):Ngr (AM.det C):=fun mp lim g as H v H' a hl=>h _ _ _ _ _ _ (SQ a) hl (v,H') (by simp)
theorem Nrg {lim:Nat} {v:Value} {H:NE} {L} (h:ZN lim v H=some L):∀r∈L,H.length<=r.2.length/\Grow lim H r.2:=fun r hr=>by
 unfold ZN at h
 split at h
 case h_2=>cases h
 split at h
 case h_2=>cases h
 split at h
 case isFalse=>cases h
 rename_i hl
 split at h
 case h_2=>cases h
 split at h
 case isFalse=>cases h
 split at h
 ·cases h
  rw [Nj] at hr
  subst hr
  exact ⟨Nd _,Grow.refl _ _⟩
 ·obtain ⟨j,_,hj⟩:=Zn h r hr
  split at hj
  ·split at hj
   ·cases hj;exact ⟨by simp,Grow.set hl fun _=>rfl⟩
   ·cases hj
  ·cases hj
theorem Noi {C:Tw} (j:TY C) {lim:Nat} {o:AOp} {ρ:Operand->Value} {H:NE} {L} (h:Yv C lim o ρ H=some L) (hl:lim<=H.length):∀r∈L,H.length<=r.2.length/\Grow lim H r.2:=fun r hr=>by
 by_cases hc:∃mp f args,o=.call mp f args
 ·obtain ⟨mp,f,args,rfl⟩:=hc
  simp only [Yv] at h
  split at h
  case h_2=>cases h
  split at h
  case h_2=>cases h
  rename_i L0 a
  obtain ⟨x,k,e⟩:=Zn h r hr
  obtain ⟨b,c⟩:=CM.lim_le mp hl
  have:=(Td e).1
  cases this
  obtain ⟨g,i⟩:=j _ _ _ _ _ _ a c r k
  exact ⟨g,i.weaken b⟩
 ·have plain:∀{v:Value} {H':NE},(NJ lim none o ρ H).map (fun r=>[r])=some L->r=(v,H')->H.length<=H'.length/\Grow lim H H':=fun {v H'} h e=>by
   simp only [Nc] at h
   obtain ⟨p,hp,rfl⟩:=h
   rw [Nj] at hr
   subst hr
   cases e
   exact ⟨Nsz hp,Ngf hp (fun d e=>by cases e) hl⟩
  cases o<;>first
   | exact absurd ⟨_,_,_,rfl⟩ hc
   | exact plain h rfl
theorem Nog {C:Tw} (c:TY C) {lim:Nat} {i:AIns} {ρ:Operand->Value} {H:NE} {L} (h:stepX C lim i ρ H=some L) (hl:lim<=H.length):∀r∈L,H.length<=r.2.length/\Grow lim H r.2:=fun r hr=>by
 unfold stepX at h
 split at h
 ·exact Noi c h hl r hr
 unfold Nd7 at h
 split at h
 ·simp only [Nc] at h
  obtain ⟨p,hp,rfl⟩:=h
  rw [Nj] at hr
  subst hr
  unfold U4 at hp
  split at hp
  ·cases hp;exact ⟨by simp,Grow.app hl fun b a _=>by simp at a;subst a;rfl⟩
  ·cases hp
 ·exact Nrg h r hr
 ·simp only [Nc] at h
  obtain ⟨p,hp,rfl⟩:=h
  rw [Nj] at hr
  subst hr
  unfold YT at hp
  repeat' (split at hp)
  all_goals first
   | (cases hp;done)
   | (cases hp;exact ⟨Nd _,Grow.refl _ _⟩)
 ·cases h
theorem Nvd {C:Tw} (c:TY C) {N lim:Nat} {i:AIns} {fr:Nat->Value} {H:NE} {L} (h:Mm C N lim i fr H=some L) (hl:lim<=H.length):∀r∈L,H.length<=r.2.length/\Grow lim H r.2:=fun r hr=>by
 unfold Mm at h
 cases hw:RX N fr i.guard with
 | none=>rw [hw] at h;cases h
 | some b=>
   rw [hw] at h
   cases b with
   | false=>
     simp only [Nc] at h
     obtain ⟨f,_,rfl⟩:=h
     rw [Nj] at hr
     subst hr
     exact ⟨Nd _,Grow.refl _ _⟩
   | true=>
     simp only at h
     split at h
     case h_2=>cases h
     rename_i L0 a
     obtain ⟨x,d,e⟩:=Zn h r hr
     simp only [Nc] at e
     obtain ⟨f,_,rfl⟩:=e
     exact Nog c a hl x d
theorem Nvh {lim:Nat} {H:NE} {X:List (List Value)} (hl:lim<=H.length):Grow lim H (H++news X):=⟨fun j b a d=>by
 rcases Ol j H.length with h | h
 ·rw [N9 h] at a;exact .inl a
 ·rw [Of h] at a
  unfold news at a
  rw [O6] at a
  simp only [Nc] at a
  obtain ⟨c,_,rfl⟩:=a
  exact .inr ⟨rfl,by omega⟩,fun j hj=>by rw [N9 (by omega)]⟩
theorem ZM {E:Env} {run:AFunc->Nat->List AItem->(Nat->Value)->NE->Option (List (Value×NE))}
  (h:∀af lim k fr H L,(∀x∈k,∀b l,x≠.ops (some b) l)->run af lim k fr H=some L->lim<=H.length->∀r∈L,H.length<=r.2.length/\Grow lim H r.2):TY (QZ E run):=by
 intro mp lim g as H L a hl r hr
 unfold QZ at a
 have keep:∀{v:Value},some [(v,H)]=some L->H.length<=r.2.length/\Grow lim H r.2:=fun {v} e=>by
  cases e
  rw [Nj] at hr
  subst hr
  exact ⟨Nd _,Grow.refl _ _⟩
 cases g with
 | inr i=>
   simp only at a
   split at a
   ·cases a
   split at a
   ·split at a
    ·exact h _ _ _ _ _ _ (fun x a b l e=>by simp at a;rcases a with rfl | rfl | rfl | rfl<;>cases e) a hl r hr
    ·cases a
   ·cases a
 | inl g=>
 simp only at a
 split at a
 ·split at a
  ·exact keep a
  ·cases a
 split at a
 ·split at a
  ·cases a
  ·cases a
   rw [Nj] at hr
   subst hr
   exact ⟨by simp,Nvh hl⟩
 ·split at a
  ·cases a
  ·split at a
   ·split at a
    ·split at a
     ·split at a
      ·exact keep a
      ·cases a
     ·cases a
    ·cases a
   ·split at a
    ·cases a
    ·exact h _ _ _ _ _ _ (fun x a b l e=>by simp at a;subst a;cases e) a hl r hr
theorem Z0 {id:Nat}:∀{k k':List AItem} {a:AItem->Prop},RO id k=some k'->(∀x∈k,a x)->∀x∈k',a x
 | [],_,_,h,_=>by simp [RO] at h
 | y::k,k',a,h,hp=>by
   have hk:∀x∈k,a x:=fun x b=>hp x (Nk _ b)
   cases y<;>simp only [RO] at h
   case inBlock c=>
    split at h
    ·cases h;exact hk
    ·exact Z0 h hk
   all_goals exact Z0 h hk
theorem Nij (E:Env):∀(n:Nat) (af:AFunc) (lim:Nat) (k:List AItem) (fr:Nat->Value) (H:NE) (L:List (Value×NE)),(∀x∈k,∀b l,x=.ops (some b) l->lim<=b)->OY E n af lim k fr H=some L->lim<=H.length->
  ∀r∈L,H.length<=r.2.length/\Grow lim H r.2
 | 0,_,_,_,_,_,_,_,h,_,_,_=>by simp [OY] at h
 | n+1,af,lim,k,fr,H,L,hk,h,hl,r,hr=>by
   have ih:=Nij E n
   rw [OY.eq_def] at h
   simp only at h
   have C:one ((result fr H af.results).map (·,H))=some L->H.length<=r.2.length/\Grow lim H r.2:=fun h=>by
    obtain ⟨x,h',rfl⟩:=Vs h
    rw [Nj] at hr
    subst hr
    simp only [Nc] at h'
    obtain ⟨_,_,rfl⟩:=h'
    exact ⟨Nd _,Grow.refl _ _⟩
   have o:∀{i:Nat} {j:Option ACode},lim<=i->one (endRound i j H)=some L->H.length<=r.2.length/\Grow lim H r.2:=fun {i j} I h=>by
    obtain ⟨x,h',rfl⟩:=Vs h
    rw [Nj] at hr
    subst hr
    exact Ng0 I h'
   have w:TY (QZ E (OY E n)):=ZM fun N lim' k' fr' H0 L0 F h0 G=>ih _ _ _ _ _ _ (fun x d b l e=>absurd e (F x d b l)) h0 G
   cases k with
   | nil=>exact C h
   | cons x k=>
     have g:∀x∈k,∀b l,x=.ops (some b) l->lim<=b:=fun x d=>hk x (Nk _ d)
     have add:∀{c:AItem},(∀b l,c≠.ops (some b) l)->∀x∈c::k,∀b l,x=.ops (some b) l->lim<=b:=fun {c} hc x d b l e=>by
      rcases Nr.1 d with h | h
      ·subst h;exact absurd e (hc b l)
      ·exact g x h b l e
     cases x with
     | inBlock id=>exact ih _ _ _ _ _ _ g h hl r hr
     | begin i=>
       simp only at h
       split at h
       ·split at h
        ·rename_i hc
         obtain ⟨u,p⟩:=Nee (H:=H) (b:=.loop { ‹LoopB› with st:=1 }) hc.2 rfl
         obtain ⟨B,v⟩:=ih _ _ _ _ _ _ g h (by simpa using hl) r hr
         exact ⟨by simpa using B,p.trans v⟩
        ·cases h
       ·cases h
     | round i=>
       simp only at h
       split at h
       ·exact o ‹_› h
       ·cases h
     | mark i=>simp at h
     | inLoop c=>
       refine ih _ _ _ _ _ _ (fun x d b l e=>?_) h hl r hr
       rcases Nr.1 d with h | h
       ·subst h;cases e
       ·exact add (c:=.inLoop c) (by simp) x h b l e
     | ops base l=>
       cases l with
       | nil=>cases base<;>exact ih _ _ _ _ _ _ g h hl r hr
       | cons i l=>
         cases base with
         | none=>
           simp only at h
           split at h
           ·rename_i L0 d
            obtain ⟨x,K,s,hs,A⟩:=Vj h r hr
            obtain ⟨u,p⟩:=Nvd w d hl x K
            obtain ⟨B,v⟩:=ih _ _ _ _ _ _ (add (c:=.ops none l) (by simp)) hs (by omega) r A
            exact ⟨by omega,p.trans v⟩
           ·cases h
         | some O=>
           simp only at h
           split at h
           ·rename_i fr' H1 d
            obtain ⟨u,p⟩:=Nfd w.det d (fun b e=>hk _ Nm b (i::l) (by cases e;rfl)) hl
            obtain ⟨B,v⟩:=ih _ _ _ _ _ _ (fun x d b M e=>by
             rcases Nr.1 d with h | h
             ·subst h;cases e;exact hk _ Nm O (i::l) rfl
             ·exact g x h b M e) h (by omega) r hr
            exact ⟨by omega,p.trans v⟩
           ·cases h
     | code c=>
       cases c<;>simp only at h
       case skip=>exact ih _ _ _ _ _ _ g h hl r hr
       case ops l=>exact ih _ _ _ _ _ _ (add (c:=.ops none l) (by simp)) h hl r hr
       case drawn m l=>
        obtain ⟨u,p⟩:=ih _ _ _ _ _ _ (fun x d b M e=>by
         rcases Nr.1 d with h | h
         ·subst h;cases e;exact hl
         ·exact g x h b M e) h (by simp;omega) r hr
        exact ⟨by simp at u;omega,(Grow.dead hl m).trans p⟩
       case seq a b=>
        refine ih _ _ _ _ _ _ (fun x d b' l e=>?_) h hl r hr
        rcases Nr.1 d with h | h
        ·subst h;cases e
        ·exact add (c:=.code b) (by simp) x h b' l e
       case cond c a b=>
        cases hc:ev fr c<;>rw [hc] at h<;>first
         | (rename_i t;cases t<;>exact ih _ _ _ _ _ _ (add (by simp)) h hl r hr)
         | (cases h;done)
       case block id b=>
        refine ih _ _ _ _ _ _ (fun x d b' l e=>?_) h hl r hr
        rcases Nr.1 d with h | h
        ·subst h;cases e
        ·exact add (c:=.inBlock id) (by simp) x h b' l e
       case loop b=>
        refine ih _ _ _ _ _ _ (fun x d b' l e=>?_) h hl r hr
        rcases Nr.1 d with h | h
        ·subst h;cases e
        ·exact add (c:=.inLoop b) (by simp) x h b' l e
       case exit id=>
        split at h
        ·rename_i k' z
         exact ih _ _ _ _ _ _ (Z0 z g) h hl r hr
        ·cases h
       case ret=>exact C h
       case retM=>
        split at h
        ·rename_i H1 J
         obtain ⟨u,p⟩:=Nhg (lim:=lim) J
         obtain ⟨x,h',rfl⟩:=Vs h
         rw [Nj] at hr
         subst hr
         simp only [Nc] at h'
         obtain ⟨_,_,rfl⟩:=h'
         exact ⟨u,p⟩
        ·cases h
       case retR=>
        split at h
        ·split at h
         ·exact o ‹_› h
         ·cases h
        ·cases h
       case exitR id=>
        split at h
        ·rename_i k' z
         exact ih _ _ _ _ _ _ (Z0 z g) h hl r hr
        ·split at h
         ·split at h
          ·exact o ‹_› h
          ·cases h
         ·cases h
       case rangeF f ps a b=>
        split at h
        ·split at h
         ·rename_i L0 d
          obtain ⟨q,P,s,hs,A⟩:=Vj h r hr
          obtain ⟨u,p⟩:=w _ _ _ _ _ _ d (by simp;omega) q P
          simp at u
          split at hs
          ·rename_i x D
           split at hs
           ·cases hs
           ·obtain ⟨B,v⟩:=ih _ _ _ _ _ _ (fun y hy b l e=>by
             rcases Od.1 hy with hy | hy
             ·cases hp:x.pend<;>rw [hp] at hy<;>simp at hy
              subst hy;cases e
             ·rcases Od.1 hy with hy | hy
              ·exact g y hy b l e
              ·simp at hy;subst hy;cases e) hs (by simp;omega) r A
            simp at B
            exact ⟨by omega,(Grow.app hl fun b D _=>by simp at D;rcases D with rfl | rfl<;>rfl).trans (p.trans ((Grow.set (b:=.dead) (by omega) fun h=>by simp [alive] at h).trans v))⟩
          ·cases hs
         ·cases h
        ·cases h
open Go.RowKit
structure CallOkS (Pg:Prg) (C:Tw):Prop where
 fn:∀mp lim g as H L,C mp lim (.inl g) as H=some L->∃fn,Pg.P.funcs[g]? = some fn/\fn.body.isSome=true/\(fn.name == "runtime.NumGoroutine")=false
 calls:∀mp lim g as H L,C mp lim (.inl g) as H=some L->lim<=H.length->∀W σ w as',Inv Pg W lim σ H w->OM σ as as'->Calls Pg.P g as'.toArray w fun e w'=>∃r∈L,Tx Pg W lim σ H r.1 r.2 w e w'
 rounds:∀mp lim i as H L,C mp lim (.inr i) as H=some L->lim<=H.length->∀W σ w as' L0,Inv Pg W lim σ H w->OM σ as as'->σ i=some L0->
  ∃r,w.heap[L0.blk]? = some (.loop r)/\as'.toArray.size=r.params.size/\RoundIn Fence.wide 0 Pg.P L0.blk r.fn (T9 r as'.toArray) r.assign r.body w fun e w'=>∃x∈L,Tx Pg W lim σ H x.1 x.2 w e w'
 grow:TY C
 pure:∀lim g as H L,C true lim g as H=some L->∀r∈L,r.2=H
theorem CallOkS.det {Pg:Prg} {C:Tw} (h:CallOkS Pg C):CallOk Pg (AM.det C) where
 pure lim g as H v H' hx:=h.pure _ _ _ _ _ (SQ hx) (v,H') (by simp)
 len mp lim g as H v H' hx hl:=(h.grow _ _ _ _ _ _ (SQ hx) hl (v,H') (by simp)).1
 keep mp lim g as H v H' hx hl:=(h.grow _ _ _ _ _ _ (SQ hx) hl (v,H') (by simp)).2.keep
 fn mp lim g as H v H' hx:=h.fn _ _ _ _ _ _ (SQ hx)
 calls mp lim g as H v H' hx hl W σ w as' hinv ha:=(h.calls _ _ _ _ _ _ (SQ hx) hl W σ w as' hinv ha).mono fun e w' hp=>by
  obtain ⟨r,hr,hp⟩:=hp
  rw [Nj] at hr
  subst hr
  exact hp
 rounds mp lim i as H v H' hx hl W σ w as' L hinv ha hL:=by
  obtain ⟨r,h1,h2,a⟩:=h.rounds _ _ _ _ _ _ (SQ hx) hl W σ w as' L hinv ha hL
  exact ⟨r,h1,h2,a.mono fun e w' hp=>by
   obtain ⟨x,hx,hp⟩:=hp
   rw [Nj] at hx
   subst hx
   exact hp⟩
 grow mp lim g as H v H' hx hl:=(h.grow _ _ _ _ _ _ (SQ hx) hl (v,H') (by simp)).2
theorem Nno (Pg:Prg):CallOk Pg fun _ _ _ _ _=>none where
 pure:=fun _ _ _ _ _ _ h=>by cases h
 len:=fun _ _ _ _ _ _ _ h=>by cases h
 keep:=fun _ _ _ _ _ _ _ h=>by cases h
 fn:=fun _ _ _ _ _ _ _ h=>by cases h
 calls:=fun _ _ _ _ _ _ _ h=>by cases h
 rounds:=fun _ _ _ _ _ _ _ h=>by cases h
 grow:=fun _ _ _ _ _ _ _ h=>by cases h
section
variable {P:Program} {pf pureF:FuncId->Bool} {C:Tw} {W:Nat->Prop} {lim:Nat} {σ:PK} {H H':NE} {w:World} {ds:List Deferred} {ro:Option Nat}
theorem Nzo {r m n:Nat} {seen:List Nat} {ty:TypeId} {ents:Array MapEntry} (hr:w.heap[r]? = some (.mapIter (some m) n seen.toArray n)) (o:w.heap[m]? = some (.map ents n)) (f:∀(j:Nat) e,ents[j]? = some e->e.born=j) (A:ents.size=n) :
  (Tt n seen=[]/\(Instr.next (.pointer (some ⟨r,0,none⟩)) false ty).run P w=.ok (.tuple #[.bool false]) w)\/
  ∃j∈Tt n seen,∃e,ents[j]? = some e/\∃c,(c=w\/c=w.drew)/\(Instr.next (.pointer (some ⟨r,0,none⟩)) false ty).run P w=.ok (.tuple #[.bool true,e.key,e.val]) (c.putObj r (.mapIter (some m) n (seen++[j]).toArray n)):=by
 have d:∀x∈ents.toList,x.born<n:=fun x a=>by
  obtain ⟨j,hj,rfl⟩:=List.mem_iff_getElem.1 a
  have:=f j ents[j] (by simp)
  simp at hj
  simp
  omega
 simp only [Instr.next,getObj,Sem.run_bind,Sem.run,hr,o,Result.andThen,next_test_false seen.toArray ents n n d (Nd _),Nz,if_false]
 have b:∀x∈(Array.filter (fun e=>!seen.toArray.contains e.born) ents).toList,x.born<n:=fun x a=>d x (by simp at a⊢;exact a.1)
 have g:∀x∈(Array.filter (fun e=>!seen.toArray.contains e.born) ents).toList,x.born∈Tt n seen/\ents[x.born]? = some x:=fun x a=>by
  simp at a
  obtain ⟨j,hj,rfl⟩:=Array.mem_iff_getElem.1 a.1
  have o:=f j ents[j] (by simp)
  rw [o]
  refine ⟨?_,by simp⟩
  unfold Tt
  rw [O5,List.mem_range]
  exact ⟨by omega,by have:=a.2;rw [o] at this;simpa using this⟩
 have i:Tt n seen≠[]->(Array.filter (fun e=>!seen.toArray.contains e.born) ents)≠#[]:=fun h e=>by
  obtain ⟨j,hj⟩:=Q9 _ h
  unfold Tt at hj
  rw [O5,List.mem_range] at hj
  have q:j<ents.size:=by omega
  have v:ents[j]∈Array.filter (fun e=>!seen.toArray.contains e.born) ents:=by
   rw [Array.mem_filter]
   refine ⟨Array.getElem_mem q, ?_⟩
   rw [f j ents[j] (by simp)]
   simpa using hj.2
  rw [e] at v
  simp at v
 generalize Array.filter (fun e=>!seen.toArray.contains e.born) ents=L at b g i⊢
 have e1:L.filter (fun x=>decide (x.born<n))=L:=Array.filter_eq_self.2 (fun x a=>by simpa using b x (by simpa using a))
 have e2:L.filter (fun x=>decide (x.born>=n))=#[]:=by
  rw [Array.filter_eq_empty_iff]
  intro x a
  have:=b x (by simpa using a)
  simp
  omega
 simp only [e1,e2,Array.append_empty]
 by_cases h0:L.size=0
 ·left
  have:L=#[]:=Array.eq_empty_of_size_eq_zero h0
  subst this
  refine ⟨Ny fun h=>i h rfl, ?_⟩
  simp [choose,Sem.run,Question.forced]
 ·right
  have s:L.isEmpty=false:=by simp [Array.isEmpty,h0]
  simp only [s,Nz,if_false,Array.empty_append,Array.size_map]
  have p:∃(j:Nat) (c:World),j<L.size/\(c=w\/c=w.drew)/\(choose (Question.mapNext L.size)).run P w=.ok j c:=by
   by_cases u:L.size<=1
   ·exact ⟨0,w,by omega,.inl rfl,by simp [choose,Sem.run,Question.forced,u]⟩
   ·exact ⟨_,w.drew,P7 _ (by omega),.inr rfl,by
     simp only [choose,Sem.run,Question.forced,N3,u,if_false,Question.cut]
     rfl⟩
  obtain ⟨j,c,hj,l,k⟩:=p
  obtain ⟨y,z⟩:=g L[j] (by simp)
  refine ⟨_,y,L[j],z,c,l, ?_⟩
  have t:c.heap[r]? = some (.mapIter (some m) n seen.toArray n):=by
   rcases l with rfl | rfl<;>exact hr
  simp only [k,Array.getElem?_map,Ob hj,Nu,Sem.run_bind,setObj,Sem.run,t,Result.andThen]
  simp [World.putObj]
theorem Ncn {v:Value} (h:VK v=true):VRel σ v v:=by
 cases v<;>simp only [VK] at h<;>first
  | (cases h;done)
  | exact .atom rfl
  | skip
 rename_i cs
 rw [N8] at h
 refine VRel.agg_iff.2 ⟨OM.refl_of fun x a=>?_,fun y b=>?_⟩
 ·have:=h x a
  cases x<;>first | exact .atom rfl | (simp at this;done)
 ·have:=h y b
  cases y<;>first | rfl | (simp at this;done)
theorem Inv.push {Pg:Prg} (h:Inv Pg W lim σ H w) {b:Blk} {o:Obj} (ho:owned b=true) (g:UL Pg (σ.put H.length ⟨w.heap.size,0,0⟩) (w.alloc o) ⟨w.heap.size,0,0⟩ b):Inv Pg W lim (σ.put H.length ⟨w.heap.size,0,0⟩) (H++[b]) (w.alloc o)/\∀j,(σ.put H.length ⟨w.heap.size,0,0⟩) j≠σ j->none=some j\/H.length<=j:=by
 have n:Inv Pg W lim σ H (w.alloc o):=h.world (by simp) fun b g=>by rw [U1,Pz];rw [Ng (by omega)]
 obtain ⟨i,k,q,l,r,s,t⟩:=TU (dest:=none) (b:=b) (H:=H) (show place none b H=(H.length,H++[b]) from rfl) (fun d e=>by cases e)
 refine ⟨n.adopt i k l (h.dom _ (Nd _)) g ho (h.fresh _ (Nd _)) fun j bj Lj m c f a e=>?_,fun j hj=>.inr ?_⟩
 ·obtain ⟨p,h1,h2⟩:=h.blk j bj c f
  rw [a] at h1;cases h1
  have:=h2.lt f
  simp at e
  omega
 ·apply Ny
  intro hc
  refine hj ?_
  simp only [PK.put]
  rw [Ng (by omega)]
theorem N3f {r:Nat} {o:Obj} (a:W r):Stp W w (w.putObj r o):=
 ⟨rfl,rfl,rfl,by simp,fun b c=>World.putObj_heap_other fun e=>c (e▸a)⟩
theorem Inv.putLoop (h:Inv (Prg.mk P pf) W lim σ H w) {i:Nat} {b b':Blk} {L:Loc} (d:NI H i=b) (ho:owned b=true) (hL:σ i=some L) (hl:lim<=i) {o:Obj} (a:UL (Prg.mk P pf) σ (w.putObj L.blk o) L b') (c:alive b'=true->owned b'=true) :
  Inv (Prg.mk P pf) W lim σ (H.set i b') (w.putObj L.blk o)/\Stp W w (w.putObj L.blk o):=by
 have hi:=RQ d (PP ho)
 exact ⟨h.rewrite hi ho hL (by simp) (fun k hk=>World.putObj_heap_other hk) a c,N3f (h.wr i b L hi ho hl hL)⟩
theorem Nyc (X:CallOkS (Prg.mk P pf) C) {o:Oper} {M:AOp} (h:Na2 P pureF false o=some M) (A:Inv (Prg.mk P pf) W lim σ H w) (hl:lim<=H.length)
  {ρ:Operand->Value} {a:Act} (hρ:∀x,PU x=true->VRel σ (ρ x) (a.eval x)) {L} (t:Yv C lim M ρ H=some L)
  {K:Act->World->Prop} {Q:Exit->Act->World->Prop} (hK:∀r∈L,∀v' w' B,ZR (Prg.mk P pf) W lim σ none H w r.1 r.2 v' w' B->K (a.put o.dst v') w'):o.wpIn (WF ro) 0 P a w K Q:=by
 by_cases z:∃mp f args,M=.call mp f args
 ·obtain ⟨mp,f,args,rfl⟩:=z
  have ac:∃c,o.op=.call c/\c.callee=.value f/\args=c.args.toList/\∀x∈o.op.operands,PU x=true:=by
   obtain ⟨dst,op,type,pos,after,guard⟩:=o
   unfold Na2 at h
   split at h
   ·cases h
   rename_i R
   simp only [Bool.not_eq_true,Bool.not_eq_false'] at R
   have s:∀x∈op.operands,PU x=true:=fun x t=>Nlt (o:=⟨dst,op,type,pos,after,guard⟩) (by simpa using R) t
   cases op<;>(try simp only at h)<;>try (cases h;done)
   case call c=>
    refine ⟨c,rfl, ?_⟩
    cases hc:c.callee with
    | value f'=>rw [hc] at h;simp at h;obtain ⟨_,rfl,rfl⟩:=h;exact ⟨rfl,rfl,s⟩
    | invoke r m=>rw [hc] at h;simp at h
    | builtin b=>
      rw [hc] at h
      exfalso
      cases b<;>(try simp only at h)<;>(try (cases h;done))<;>(repeat' (split at h))<;>first
       | (cases h;done)
       | (simp only [Nc] at h;obtain ⟨_,_,h⟩:=h;cases h;done)
       | (exfalso;simp at h;done)
       | (obtain ⟨_,_,h⟩:=OA h;obtain ⟨_,_,h⟩:=OA h;obtain ⟨_,_,h⟩:=OA h;split at h<;>cases h;done)
   all_goals exfalso
   all_goals (repeat' (first | (obtain ⟨_,_,h⟩:=OA h) | split at h))
   all_goals first
    | (cases h;done)
    | (simp only [Nc] at h;obtain ⟨_,_,h⟩:=h;cases h;done)
    | contradiction
  obtain ⟨c,ho,p,rfl,s⟩:=ac
  simp only [Yv] at t
  split at t
  case h_2=>cases t
  rename_i g as l
  split at t
  case h_2=>cases t
  rename_i L0 k
  have ad:∀r∈L0,r∈L:=fun r hr=>by
   obtain ⟨y,hy,e⟩:=Y9 t r hr
   have:=(Td e).1
   cases this
   exact hy
  obtain ⟨J,E⟩:=CM.lim_le mp hl
  have n:=A.up J
  generalize mp.lim lim H=lim' at k J E n
  generalize mp.isPure=ae at k
  have T:∀{ρ'},o.semAt (WF ro).round ρ'=execOp ρ' o:=fun {ρ'}=>Oper.semAt_eq _ _ _ fun c' e=>by rw [ho] at e;cases e
  refine ⟨fun _ _=>trivial, ?_⟩
  rw [T]
  have ab:PU f=true:=s f (by rw [ho];simp [Op.operands,Call.operands,p])
  have D:=hρ f ab
  have u:OM σ (c.args.toList.map ρ) (c.args.map a.eval).toList:=by
   have:(c.args.map a.eval).toList=c.args.toList.map a.eval:=by simp
   rw [this]
   exact VJ fun x t=>hρ x (s x (by rw [ho];simp only [Op.operands,Call.operands,p];simp at t⊢;exact .inr t))
  have fin:∀{N:Ending} {w':World} {K':Value->World->Prop},(∃r∈L0,Tx (Prg.mk P pf) W lim' σ H r.1 r.2 w N w')->(∀v',N=.returned v'->(∃r∈L,∃B,ZR (Prg.mk P pf) W lim σ none H w r.1 r.2 v' w' B)->K' v' w')->∃v',N=.returned v'/\K' v' w':=fun {N w' K'} hp hk=>by
   obtain ⟨r,hr,v',B,rfl,q1,q2,q3,q4,q5⟩:=hp
   obtain ⟨g1,g2⟩:=X.grow _ _ _ _ _ _ k E r hr
   exact ⟨v',rfl,hk v' rfl ⟨r,ad r hr,B,q1,A.back q2 q4 g2,q3,q4,fun j hj=>.inr (q5 j hj),g1,g2.weaken J⟩⟩
  unfold NC at l
  split at l
  case h_3=>cases l
  case h_2=>
   rename_i i fi ca Z
   simp only [Option.some.injEq,Prod.mk.injEq] at l
   obtain ⟨rfl,rfl⟩:=l
   rw [Z] at D
   obtain ⟨L1,hL,rfl,rfl,I⟩:=D.yld_left
   simp only [Ov,Nb] at k
   obtain ⟨r,h1,h2,V⟩:=X.rounds _ _ _ _ _ _ k E W σ w _ L1 n u hL
   simp only [Array.toArray_toList] at h2 V
   rw [Nfz (P:=P) ho p I h1 h2,Oper.uponIn_round]
   refine ⟨MB,Nek (V.mono fun N w' hp=>?_)⟩
   obtain ⟨v',rfl,hk⟩:=fin (K':=fun v' w'=>K (a.put o.dst v') w') hp fun v' _ ⟨r,hr,B,hn⟩=>hK r hr v' w' B hn
   exact hk
  rename_i g' fi ca Z
  simp only [Option.some.injEq,Prod.mk.injEq] at l
  obtain ⟨rfl,rfl⟩:=l
  rw [Z] at D
  obtain ⟨G,F,I,aa,Y⟩:=D.func_left
  obtain ⟨fn,h1,h2,V⟩:=X.fn _ _ _ _ _ _ k
  have S:=Nf0 (P:=P) (w:=w) ho p I h1 h2 V
  have q:=X.calls _ _ _ _ _ _ k E W σ w (G.toList++(c.args.map a.eval).toList++F.toList) n ((aa.append u).append Y)
  have e:(G.toList++(c.args.map a.eval).toList++F.toList).toArray=G++c.args.map a.eval++F:=by
   apply Array.ext';simp
  rw [e] at q
  rw [S,Oper.uponIn_enter]
  refine ⟨MB,Nfx (q.mono fun N w' hp=>?_)⟩
  obtain ⟨v',rfl,hk⟩:=fin (K':=fun v' w'=>K (a.put o.dst v') w') hp fun v' _ ⟨r,hr,B,hn⟩=>hK r hr v' w' B hn
  exact hk
 ·have O:∀mp f args,M≠.call mp f args:=fun mp f args e=>z ⟨mp,f,args,e⟩
  have U:(NJ lim none M ρ H).map (fun r=>[r])=some L:=by
   cases M<;>first | exact t | exact absurd rfl (O _ _ _)
  simp only [Nc] at U
  obtain ⟨⟨v,H'⟩,hv,rfl⟩:=U
  refine Ntf (Nno (Prg.mk P pf)) (dest:=none) h A hl (fun d e=>by cases e) (fun d e=>by cases e) hρ (v:=v) (H':=H') (by rw [OT O];exact hv) fun v' w' B hn=>hK (v,H') (by simp) v' w' B hn
theorem Nth {o:Oper} {x:Operand} {k:Nat} (g:N3a P o=some (x,k)) (d:Inv (Prg.mk P pf) W lim σ H w) (hl:lim<=H.length)
  {ρ:Operand->Value} {a:Act} (hρ:∀x,PU x=true->VRel σ (ρ x) (a.eval x)) {L} {i:AIns} (am:i.op=.mov x) (an:i.dest=some k) (f:stepX C lim i ρ H=some L)
  {K:Act->World->Prop} {Q:Exit->Act->World->Prop} (hK:∀r∈L,∀v' w' σ',ZR (Prg.mk P pf) W lim σ none H w r.1 r.2 v' w' σ'->K (a.put o.dst v') w'):o.wpIn (WF ro) 0 P a w K Q:=by
 obtain ⟨dst,op,type,pos,after,guard⟩:=o
 unfold N3a at g
 split at g
 ·cases g
 rename_i ag
 simp only [Bool.not_eq_true,Bool.not_eq_false'] at ag
 have E:∀x∈op.operands,PU x=true:=fun x f=>Nlt (o:=⟨dst,op,type,pos,after,guard⟩) (by simpa using ag) f
 unfold stepX at f
 rw [an,am] at f
 simp only [Nd7] at f
 have fin:∀{v v':Value} {H1:NE} {w1:World} {σ1:PK},(v,H1)∈L->(execOp a.eval ⟨dst,op,type,pos,after,guard⟩).run P w=.ok (.value v') w1->ZR (Prg.mk P pf) W lim σ none H w v H1 v' w1 σ1->Oper.wpIn (WF ro) 0 P ⟨dst,op,type,pos,after,guard⟩ a w K Q:=fun {v v' H1 w1 σ1} hm hr hn=>by
  have al:∀c,op≠.defer c:=fun c e=>by
   subst e
   simp at g
  refine ⟨fun _ _=>trivial, ?_⟩
  rw [Oper.semAt_eq _ _ _ al,hr,Oper.uponIn_value]
  exact hK _ hm _ _ _ hn
 cases op<;>simp only at g<;>try (cases g;done)
 case range t y=>
  split at g
  case h_2=>cases g
  rename_i kt et I
  cases g
  have J:=hρ x (E x (by simp [Op.operands]))
  simp only at f
  simp only [Nc] at f
  obtain ⟨p,hp,rfl⟩:=f
  unfold U4 at hp
  split at hp
  case h_2=>cases hp
  rename_i m es hm h
  cases hp
  rw [hm] at h J
  rcases d.entries J h with ⟨l,rfl⟩ | ⟨r,L,ents,clock,D,z,hL,l,G,B,s⟩
  ·have au:m=none:=by
    cases m with
    | none=>rfl
    | some r=>obtain ⟨L,_,h2⟩:=J.map_left;rw [l] at h2;cases h2
   subst au
   obtain ⟨i1,i2⟩:=d.push (b:=.iter none 0 []) (o:=.mapIter none 0 #[] 0) rfl ⟨rfl,none,rfl,World.alloc_heap_new _ _,fun j hj=>by cases hj⟩
   refine fin (Nj.2 rfl) (v':=.pointer (some ⟨w.heap.size,0,none⟩)) (by
    simp only [execOp]
    refine OV P w _ ?_
    rw [l]
    exact run_range_nilMap w t kt et I) ⟨by have:=VRel.ptr (σ:=σ.put H.length ⟨w.heap.size,0,0⟩) (k:=0) PK.put_same;simpa using this,i1,Stp.alloc d.fresh _,PK.le_put (d.dom _ (Nd _)),i2,by simp,Grow.app hl fun b z _=>by simp at z;subst z;rfl⟩
  ·cases D
   obtain ⟨t1,t2⟩:=d.stamps z hL G
   have ad:=PK.le_put (L:=⟨w.heap.size,0,0⟩) (d.dom _ (Nd H.length))
   obtain ⟨i1,i2⟩:=d.push (b:=.iter (some r) es.length []) (o:=.mapIter (some L.blk) clock #[] clock) rfl ⟨rfl,some L.blk,⟨L,ad _ _ hL,rfl⟩,by rw [<-t1];exact World.alloc_heap_new _ _,fun j hj=>by cases hj⟩
   refine fin (Nj.2 rfl) (v':=.pointer (some ⟨w.heap.size,0,none⟩)) (by
    simp only [execOp]
    refine OV P w _ ?_
    rw [l]
    exact run_range_map w t kt et L.blk ents clock I G) ⟨by have:=VRel.ptr (σ:=σ.put H.length ⟨w.heap.size,0,0⟩) (k:=0) PK.put_same;simpa using this,i1,Stp.alloc d.fresh _,ad,i2,by simp,Grow.app hl fun b z _=>by simp at z;subst z;rfl⟩
 case next it WA=>
  split at g
  ·cases g
  rename_i hs
  cases g
  have J:=hρ x (E x (by simp [Op.operands]))
  simp only at f
  unfold ZN at f
  split at f
  case h_2=>cases f
  rename_i r hr
  rw [hr] at J
  obtain ⟨Lr,ab,_,Z⟩:=J.ptr_left
  split at f
  case h_2=>cases f
  rename_i m n seen z
  split at f
  case isFalse=>cases f
  rename_i ae
  split at f
  case h_2=>cases f
  rename_i es h
  split at f
  case isFalse=>cases f
  rename_i hn
  obtain ⟨L',h1,T⟩:=d.blk r _ (RQ z rfl) rfl
  have N:σ r=some Lr:=ab
  rw [N] at h1;cases h1
  obtain ⟨h0,m',hm,G,ah⟩:=T
  have hp:a.eval x=.pointer (some ⟨Lr.blk,0,none⟩):=by rw [Z,h0];rfl
  have aw:WA=false:=by simpa using hs
  subst aw
  cases m with
  | none=>
    cases hm
    have e0:es=[]:=by simp [mapEntries] at h;exact h
    subst e0
    have aq:n=0:=by simpa using hn.symm
    subst aq
    have I:Tt 0 seen=[]:=rfl
    rw [I] at f
    cases f
    refine fin (Nj.2 rfl) (v':=.tuple #[.bool false]) (by
     simp only [execOp]
     refine OV P w _ ?_
     rw [hp]
     simp only [Instr.next,getObj,Sem.run_bind,Sem.run,G,Result.andThen]
     rfl) ⟨VRel.tuple_iff.2 (OM.cons (.atom rfl) OM.nil),d,Stp.refl _ _,PK.le_refl _,fun j hj=>absurd rfl hj,Nd _,Grow.refl _ _⟩
  | some mr=>
    obtain ⟨M,R,rfl⟩:=hm
    have ay:NI H mr=.map es:=by
     simp only [mapEntries] at h
     split at h
     ·rename_i aj;cases h;exact aj
     ·cases h
    rcases d.entries (.map R) h with ⟨l,_⟩ | ⟨r',L1,ents,clock,D,S,u,l,q,B,s⟩
    ·cases l
    cases D
    have O:L1=M:=by rw [u] at R;cases R;rfl
    subst O
    obtain ⟨t1,t2⟩:=d.stamps S u q
    rw [t1,hn] at q
    simp only [Option.isSome_some,if_true] at G
    rcases Nzo (P:=P) (ty:=type) G q t2 (by rw [B,hn]) with ⟨I,F⟩ | ⟨j,hj,e,he,w1,aa,F⟩
    ·rw [I] at f
     cases f
     refine fin (Nj.2 rfl) (v':=.tuple #[.bool false]) (by
      simp only [execOp]
      refine OV P w _ ?_
      rw [hp]
      exact F) ⟨VRel.tuple_iff.2 (OM.cons (.atom rfl) OM.nil),d,Stp.refl _ _,PK.le_refl _,fun j hj=>absurd rfl hj,Nd _,Grow.refl _ _⟩
    ·have ax:YA (fun j=>match es[j]? with
       | some e=>if VK e.1 then some (.tuple #[.bool true,e.1,e.2],H.set r (.iter (some mr) n (seen++[j]))) else none
       | none=>none) (Tt n seen)=some L:=by
      cases I:Tt n seen with
      | nil=>rw [I] at hj;cases hj
      | cons j0 l0=>rw [I] at f;exact f
     obtain ⟨y,hy,ey⟩:=Y9 ax j hj
     have ao:j<n:=by
      unfold Tt at hj
      exact List.mem_range.1 (O5.1 hj).1
     have A:j<es.length:=by omega
     rw [Nf A] at ey
     simp only at ey
     split at ey
     case isFalse=>cases ey
     rename_i X
     cases ey
     obtain ⟨k1,k2⟩:=s j es[j] e (Nf A) he
     have V:Inv (Prg.mk P pf) W lim σ H w1:=by rcases aa with rfl | rfl;exact d;exact d.drew
     have ai:Stp W w w1:=by rcases aa with rfl | rfl;exact Stp.refl _ _;exact Stp.drew
     have ap:Lr.blk<w1.heap.size:=by
      have:=(Array.getElem?_eq_some_iff.1 G).1
      rcases aa with rfl | rfl<;>exact this
     obtain ⟨i1,i2⟩:=V.putLoop (o:=.mapIter (some L1.blk) n (seen++[j]).toArray n) (b':=.iter (some mr) n (seen++[j])) z rfl ab ae
      ⟨h0,some L1.blk,⟨L1,u,rfl⟩,by simpa using World.putObj_heap_same ap,fun i hi=>by
       rcases Od.1 hi with hi | hi
       ·exact ah i hi
       ·rw [Nj] at hi;subst hi;exact ao⟩ (fun _=>rfl)
     refine fin hy (v':=.tuple #[.bool true,e.key,e.val]) (by
      simp only [execOp]
      refine OV P w _ ?_
      rw [hp]
      exact F) ⟨VRel.tuple_iff.2 (OM.cons (.atom rfl) (OM.cons (by rw [<-k1];exact Ncn X) (OM.cons k2 OM.nil))),i1,ai.trans i2,PK.le_refl _,fun j hj=>absurd rfl hj,by simp,Grow.set ae fun _=>rfl⟩
 case entry it=>
  cases g
  have J:=hρ x (E x (by simp [Op.operands]))
  simp only at f
  simp only [Nc] at f
  obtain ⟨p,hp,rfl⟩:=f
  unfold YT at hp
  split at hp
  case h_2=>cases hp
  rename_i r hr
  rw [hr] at J
  obtain ⟨L,hL,_,Z⟩:=J.ptr_left
  split at hp
  case h_2=>cases hp
  rename_i mr n seen z
  split at hp
  case h_2=>cases hp
  rename_i es j h Y
  split at hp
  case isFalse=>cases hp
  rename_i hn
  split at hp
  case h_2=>cases hp
  rename_i e0 ac
  split at hp
  case isFalse=>cases hp
  rename_i X
  cases hp
  obtain ⟨L',h1,T⟩:=d.blk r _ (RQ z rfl) rfl
  have N:σ r=some L:=hL
  rw [N] at h1;cases h1
  obtain ⟨h0,m',⟨M,R,rfl⟩,G,ah⟩:=T
  have av:a.eval x=.pointer (some ⟨L.blk,0,none⟩):=by rw [Z,h0];rfl
  rcases d.entries (.map R) h with ⟨l,_⟩ | ⟨r',L1,ents,clock,D,S,u,l,q,B,s⟩
  ·cases l
  cases D
  have O:L1=M:=by rw [u] at R;cases R;rfl
  subst O
  obtain ⟨t1,t2⟩:=d.stamps S u q
  rw [t1,hn] at q
  simp only [Option.isSome_some,if_true] at G
  have az:j<es.length:=(List.getElem?_eq_some_iff.1 ac).1
  have A:j<ents.size:=by omega
  obtain ⟨k1,k2⟩:=s j e0 ents[j] ac (by simp [A])
  obtain ⟨s0,rfl⟩:∃s0,seen=s0++[j]:=by
   exact List.getLast?_eq_some_iff.1 Y
  have U:ents.find? (·.born == j)=some ents[j]:=by
   rw [<-Array.find?_toList]
   have ar:(ents.toList.map (·.born)).Nodup:=by
    have:ents.toList.map (·.born)=List.range ents.size:=by
     apply Pn (by simp)
     intro i h1 h2
     simp at h1 h2
     simp
     exact t2 i ents[i] (by simp)
    rw [this];exact List.nodup_range
   have:=find_born ents[j] ents.toList ar (by simp)
   rw [t2 j ents[j] (by simp [A])] at this
   exact this
  refine fin (Nj.2 rfl) (v':=.tuple #[ents[j].key,ents[j].val]) (by
   simp only [execOp]
   refine OV P w _ ?_
   rw [av]
   have ak:(s0++[j]).toArray.back? = some j:=by simp
   simp only [Instr.entry,getObj,Sem.run_bind,Sem.run,G,q,ak,Result.andThen,bne_self_eq_false,Nz,if_false,U]
   rfl) ⟨VRel.tuple_iff.2 (OM.cons (by rw [<-k1];exact Ncn X) (OM.cons k2 OM.nil)),d,Stp.refl _ _,PK.le_refl _,fun j hj=>absurd rfl hj,Nd _,Grow.refl _ _⟩
theorem N4u (A:CallOkS (Prg.mk P pf) C) {ops:Array Oper} {j:Nat} {o:Oper} (hj:ops[j]? = some o) {i:AIns} (c:Yt P pureF ops o=some i) {N:Nat} {fr:Nat->Value} {a:Act} (hs:State (Prg.mk P pf) ds W lim σ N fr H a w)
  {L} (h:Mm C N lim i fr H=some L) {K:Act->World->Prop} {Q:Exit->Act->World->Prop} (hK:∀r∈L,∀p a' w',State (Prg.mk P pf) ds W lim p N r.1 r.2 a' w'->Stp W w w'->PK.le σ p->Grow lim H r.2->(∀j,p j≠σ j->H.length<=j)->H.length<=r.2.length->K a' w'):wpOpIn (WF ro) 0 P ops Q j K a w:=by
 have e:(∃q,Na2 P pureF false o=some q/\i.op=q/\i.dest=none\/∃x k,N3a P o=some (x,k)/\i.op=.mov x/\i.dest=some k)/\i.dst=o.dst/\MF ops o.guard=some i.guard:=by
  unfold Yt at c
  split at c
  ·rename_i G l
   cases c
   obtain ⟨q,d,l⟩:=OA l
   obtain ⟨g,u,l⟩:=OA l
   cases l
   exact ⟨⟨q,.inl ⟨d,rfl,rfl⟩⟩,rfl,u⟩
  ·obtain ⟨⟨x,k⟩,d,c⟩:=OA c
   obtain ⟨g,u,c⟩:=OA c
   cases c
   exact ⟨⟨default,.inr ⟨x,k,d,rfl,rfl⟩⟩,rfl,u⟩
 obtain ⟨e,n,u⟩:=e
 unfold wpOpIn
 rw [hj]
 simp only
 unfold Mm at h
 cases hw:RX N fr i.guard with
 | none=>rw [hw] at h;cases h
 | some b=>
 rw [hs.fr.wanted u hw]
 rw [hw] at h
 cases b with
 | false=>
   simp only [Nz,if_false]
   simp only [Nc] at h
   obtain ⟨f,t,rfl⟩:=h
   rw [n] at t
   exact ⟨fun _ _=>trivial,hK _ (Nj.2 rfl) σ _ w ⟨hs.fr.put (.atom rfl) t,hs.inv,hs.lim⟩ (Stp.refl _ _) (PK.le_refl _) (Grow.refl _ _) (fun j hj=>absurd rfl hj) (Nd _)⟩
 | true=>
   simp only [if_true]
   simp only at h
   split at h
   case h_2=>cases h
   rename_i L0 m
   have go:∀r∈L0,∀v' w' p,ZR (Prg.mk P pf) W lim σ none H w r.1 r.2 v' w' p->K (a.put o.dst v') w':=fun r hr v' w' p hn=>by
    obtain ⟨y,B,v⟩:=Y9 h r hr
    simp only [Nc] at v
    obtain ⟨f,t,rfl⟩:=v
    rw [n] at t
    obtain ⟨q1,q2,q3,z,D,E,F⟩:=hn
    exact hK _ B p _ w' ⟨(hs.fr.mono z).put q1 t,q2,by have:=hs.lim;simp only;omega⟩ q3 z F (fun j hj=>(D j hj).resolve_left (by simp)) E
   obtain ⟨q,⟨d,h1,h2⟩ | ⟨x,k,d,h1,h2⟩⟩:=e
   ·have s:Yv C lim q (ev fr) H=some L0:=by
     unfold stepX at m
     rw [h2,h1] at m
     exact m
    exact Nyc A d hs.inv hs.lim (fun x h=>hs.fr.ev h) s go
   ·exact Nth d hs.inv hs.lim (fun x h=>hs.fr.ev h) h1 h2 m go
theorem ZE (p:CallOkS (Prg.mk P pf) C) {ops:Array Oper} {N:Nat} {Q:Exit->Act->World->Prop} (W:Nat->Prop) (lim:Nat) (d:PK) (H0:NE) (o:World) {l:List AIns} (hl:ops.toList.mapM (Yt P pureF ops)=some l) :
  ∀(m s:Nat) (fr:Nat->Value) (H:NE) (a:Act) (w:World) (σ:PK) (i:List ((Nat->Value)×NE)),
   (∀r∈i,∀a w σ,State (Prg.mk P pf) ds W lim σ N r.1 r.2 a w->Stp W o w->PK.le d σ->Grow lim H0 r.2->(∀j,σ j≠d j->H0.length<=j)->H0.length<=r.2.length->Q .normal a w)->
   s+m=ops.size->State (Prg.mk P pf) ds W lim σ N fr H a w->Stp W o w->PK.le d σ->Grow lim H0 H->(∀j,σ j≠d j->H0.length<=j)->H0.length<=H.length->
   Yi C N lim (l.drop s) fr H=some i->wpOpsIn (WF ro) 0 P ops Q (List.range' s m) a w
 | 0,s,fr,H,a,w,σ,i,hQ,hs,hst,h1,h2,h3,h4,h5,c=>by
   have b:=(MZ hl).1
   have:l.drop s=[]:=by
    apply Qa
    rw [b];simp;omega
   rw [this] at c
   simp [Yi] at c
   subst c
   simp only [List.range'_zero,wpOpsIn]
   exact hQ (fr,H) (by simp) a w σ hst h1 h2 h3 h4 h5
 | m+1,s,fr,H,a,w,σ,i,hQ,hs,hst,h1,h2,h3,h4,h5,c=>by
   obtain ⟨b,NI⟩:=MZ hl
   have f:s<l.length:=by rw [b];simp;omega
   have g:s<ops.size:=by omega
   rw [Ox f] at c
   simp only [Yi] at c
   split at c
   case h_2=>cases c
   rename_i L hL
   have n:=NI s ops[s] l[s] (by simp [g]) (by simp [f])
   rw [List.range'_succ,wpOpsIn_cons]
   refine N4u p (by simp [g]) n hst hL fun r hr v a' w' q1 q2 q3 t u y=>?_
   obtain ⟨q,k,h⟩:=Vh c r hr
   exact ZE p W lim d H0 o hl m (s+1) r.1 r.2 a' w' v q (fun x c=>hQ x (h x c)) (by omega) q1 (h1.trans q2) (PK.le_trans h2 q3) (h3.trans t)
    (fun j hj=>by
     apply Oj
     intro hc
     have e1:σ j=d j:=Ny fun e=>hc (h4 j e)
     have:=u j (fun e=>hj (e.trans e1))
     omega) (by omega) k
end
end Go.AM


namespace Go.AM
open Go.RowKit
structure EnvOk (P:Program) (E:Env):Prop where
 tr:∀g af,E.tr g=some af->NT P E.pure g=some af
 orcFn:∀g as v,E.orc g as=some v->∃fn,P.funcs[g]? = some fn/\fn.body.isSome=true/\(fn.name == "runtime.NumGoroutine")=false
 orc:∀g as v,E.orc g as=some v->∀w,Calls P g as.toArray w fun e w'=>e=.returned v/\Below w.heap.size w w'
 orcFlat:∀g as v,E.orc g as=some v->∀σ,VRel σ v v
 mixed:P.follows .mixedOrders=true
 effFn:∀g as H r,E.eff g as H=some r->∃fn,P.funcs[g]? = some fn/\fn.body.isSome=true/\(fn.name == "runtime.NumGoroutine")=false
 eff:∀g as H r,E.eff g as H=some r->∀lim,lim<=H.length->∀W σ w as',Inv (Prg.mk P (Env.pure E)) W lim σ H w->OM σ as as'->Calls P g as'.toArray w (Tx (Prg.mk P (Env.pure E)) W lim σ H r.1 (H++news r.2) w)
theorem VRel.eq_of_atom {σ:PK} {v v':Value} (h:VRel σ v v') (a:AM.atom v=true):v'=v:=by
 cases h with
 | atom _=>rfl
 | func h1 h2 k1 k2=>
   simp [AM.atom] at a
   obtain ⟨rfl,rfl⟩:=a
   simp at h1 h2
   rw [Array.size_eq_zero_iff.1 h1.symm,Array.size_eq_zero_iff.1 h2.symm]
 | tuple h k=>
   simp [AM.atom] at a
   subst a
   rw [Array.size_eq_zero_iff.1 h.symm]
 | _=>simp [AM.atom] at a
theorem VRel.flat_self {τ:PK}:∀(n:Nat) {σ:PK} {v v':Value},VRel σ v v'->flat n v=true->VRel τ v v'
 | 0,σ,v,v',h,hf=>by
   have a:AM.atom v=true:=by cases v<;>simpa [flat] using hf
   rw [h.eq_of_atom a];exact .atom a
 | n+1,σ,v,v',h,hf=>by
   have at':AM.atom v=true->VRel τ v v':=fun a=>by rw [h.eq_of_atom a];exact .atom a
   cases h with
   | agg h k o=>
     simp only [flat,N8] at hf
     exact .agg h (fun i h1 h2=>VRel.flat_self n (k i h1 h2) (hf _ (by simp))) o
   | tuple h k=>
     simp only [flat,N8] at hf
     exact .tuple h (fun i h1 h2=>VRel.flat_self n (k i h1 h2) (hf _ (by simp)))
   | atom h=>exact .atom h
   | func h1 h2 k1 k2=>exact at' (by simpa [flat] using hf)
   | _=>simp [flat,AM.atom] at hf
theorem MV {n:Nat} (d:Nat) {v:Value} (h:AM.atom v=true):olds n d v=true:=by
 cases v with
 | pointer o=>
   cases o with
   | none=>cases d<;>rfl
   | some a=>simp [AM.atom] at h
 | map o=>
   cases o with
   | none=>cases d<;>rfl
   | some a=>simp [AM.atom] at h
 | slice o a b=>
   cases o with
   | none=>cases d<;>exact h
   | some a=>simp [AM.atom] at h
 | agg cs=>simp [AM.atom] at h
 | tuple cs=>
   have:cs=#[]:=by simpa [AM.atom] using h
   subst this
   cases d<;>rfl
 | _=>cases d<;>exact h
theorem XJ {n:Nat}:∀(d:Nat) {v:Value},flat d v=true->olds n d v=true
 | 0,v,h=>MV 0 (by cases v<;>simpa [flat] using h)
 | d+1,v,h=>by
   cases v with
   | agg cs=>simp only [flat,olds,N8] at h⊢;exact fun x a=>XJ d (h x a)
   | tuple cs=>simp only [flat,olds,N8] at h⊢;exact fun x a=>XJ d (h x a)
   | _=>exact MV _ (by simpa [flat] using h)
theorem VRel.olds {σ τ:PK} {n:Nat} (hs:∀i L,i<n->σ i=some L->τ i=some L):∀(d:Nat) {v v':Value},VRel σ v v'->olds n d v=true->VRel τ v v'
 | 0,v,v',h,hf=>by
   cases h with
   | atom h=>exact .atom h
   | ptr h=>exact .ptr (hs _ _ (by simpa [AM.olds] using hf) h)
   | slice h hc=>exact .slice (hs _ _ (by simpa [AM.olds] using hf) h) hc
   | lslice h hn hr=>exact .lslice (hs _ _ (by simpa [AM.olds] using hf) h) hn hr
   | eslice h hc=>exact .eslice (hs _ _ (by simpa [AM.olds] using hf) h) hc
   | map h=>exact .map (hs _ _ (by simpa [AM.olds] using hf) h)
   | func h1 h2 k1 k2=>
     rw [(VRel.func h1 h2 k1 k2).eq_of_atom (by simpa [AM.olds] using hf)]
     exact .atom (by simpa [AM.olds] using hf)
   | yld h=>simp [AM.olds,AM.atom] at hf
   | agg h k o=>simp [AM.olds,AM.atom] at hf
   | @tuple xs ys h k=>
     have a:AM.atom (.tuple xs)=true:=by simpa [AM.olds] using hf
     rw [(VRel.tuple h k).eq_of_atom a]
     exact .atom a
 | d+1,v,v',h,hf=>by
   cases h with
   | agg h k o=>
     simp only [AM.olds,N8] at hf
     exact .agg h (fun i h1 h2=>VRel.olds hs d (k i h1 h2) (hf _ (by simp))) o
   | tuple h k=>
     simp only [AM.olds,N8] at hf
     exact .tuple h (fun i h1 h2=>VRel.olds hs d (k i h1 h2) (hf _ (by simp)))
   | atom h=>exact .atom h
   | ptr h=>exact .ptr (hs _ _ (by simpa [AM.olds] using hf) h)
   | slice h hc=>exact .slice (hs _ _ (by simpa [AM.olds] using hf) h) hc
   | lslice h hn hr=>exact .lslice (hs _ _ (by simpa [AM.olds] using hf) h) hn hr
   | eslice h hc=>exact .eslice (hs _ _ (by simpa [AM.olds] using hf) h) hc
   | map h=>exact .map (hs _ _ (by simpa [AM.olds] using hf) h)
   | func h1 h2 k1 k2=>
     rw [(VRel.func h1 h2 k1 k2).eq_of_atom (by simpa [AM.olds] using hf)]
     exact .atom (by simpa [AM.olds] using hf)
   | yld h=>simp [AM.olds,AM.atom] at hf
section
variable {P:Program} {pf:FuncId->Bool} {W:Nat->Prop} {lim:Nat} {σ:PK} {H H':NE} {w:World} {ds:List Deferred}
inductive Md where
 | n | m | r (i:Nat)
def trX (P:Program) (pf:FuncId->Bool):Md->Code->Option ACode
 | .n=>X9 P pf
 | .m=>Uk P pf
 | .r _=>TE P pf
inductive XC (P:Program) (pf:FuncId->Bool):Md->Code->ACode->Prop
 | skip {md}:XC P pf md .skip .skip
 | plain {md id ops l} (h:ops.toList.mapM (Yt P pf ops)=some l):XC P pf md (.region id ops false) (.ops l)
 | drawn {md id ops n L} (h:VC P pf ops=some (.drawn n L)):XC P pf md (.region id ops true) (.drawn n L)
 | seq {md a b a' b'} (h:trX P pf md a=some a') (k:trX P pf md b=some b'):XC P pf md (.seq a b) (.seq a' b')
 | cond {md c a b a' b'} (ho:PU c=true) (h:trX P pf md a=some a') (k:trX P pf md b=some b'):XC P pf md (.cond c a b) (.cond c a' b')
 | block {md id a a'} (h:trX P pf md a=some a'):XC P pf md (.block id a) (.block id a')
 | loop {md a a'} (h:trX P pf md a=some a'):XC P pf md (.loop a) (.loop a')
 | exit {md id} (h:∀i,md≠.r i):XC P pf md (.exit id) (.exit id)
 | exitR {i id}:XC P pf (.r i) (.exit id) (.exitR id)
 | ret:XC P pf .n .ret .ret
 | retM:XC P pf .m .ret .retM
 | retR {i}:XC P pf (.r i) .ret .retR
 | rangeF {f ps a b a' b'} (ho:PU f=true) (h:TE P pf a=some a') (k:TE P pf b=some b'):XC P pf .m (.rangeFunc f ps a b) (.rangeF f ps.toList a' b')
theorem Ngt {ops:Array Oper} {c:ACode} (h:VC P pf ops=some c):∃n L,c=.drawn n L:=by
 obtain ⟨st,h⟩:∃st,Xb P pf st ops=some c:=by
  unfold VC at h
  split at h
  ·rename_i hc;cases h;exact ⟨_,hc⟩
  ·exact ⟨_,h⟩
 unfold Xb at h
 obtain ⟨l,hl,h⟩:=OA h
 simp only at h
 repeat' (split at h)
 all_goals first
  | (cases h;done)
  | (cases h;exact ⟨_,_,rfl⟩)
theorem Nta {md:Md} {C:Code} {c:ACode} (h:trX P pf md C=some c):XC P pf md C c:=by
 cases md<;>cases C<;>simp only [trX,X9,Uk,TE] at h<;>try (cases h;done)
 all_goals first
  | (cases h;first | exact .skip | exact .exit (by intros;nofun) | exact .exitR | exact .ret | exact .retM | exact .retR;done)
  | (rename_i id ops d
     cases d with
     | false=>simp only [Nz,if_false] at h;obtain ⟨l,hl,h⟩:=OA h;cases h;exact .plain hl
     | true=>simp only [if_true] at h;obtain ⟨n,L,rfl⟩:=Ngt h;exact .drawn h
     done)
  | (obtain ⟨f,a,h⟩:=OA h;obtain ⟨g,b,h⟩:=OA h;cases h;exact .seq a b;done)
  | (obtain ⟨f,a,h⟩:=OA h;cases h;first | exact .block a | exact .loop a;done)
  | (split at h
     case isFalse=>cases h
     rename_i e
     obtain ⟨f,a,h⟩:=OA h;obtain ⟨g,b,h⟩:=OA h;cases h;first | exact .cond e a b | exact .rangeF e a b
     done)
inductive KRel (P:Program) (pf:FuncId->Bool):Md->List Nat->List AItem->List Item->Prop
 | nilN:KRel P pf .n [] [] []
 | nilM {ms:List Nat}:KRel P pf .m ms (.code .retM::ms.map .mark) []
 | nilR {i:Nat}:KRel P pf (.r i) [] [.round i] []
 | code {md ms c C k K} (h:trX P pf md C=some c) (t:KRel P pf md ms k K):KRel P pf md ms (.code c::k) (.code C::K)
 | inBlock {md ms id k K} (t:KRel P pf md ms k K):KRel P pf md ms (.inBlock id::k) (.inBlock id::K)
 | inLoop {md ms c C k K} (h:trX P pf md C=some c) (t:KRel P pf md ms k K):KRel P pf md ms (.inLoop c::k) (.inLoop C::K)
 | begin {i ms k K} (t:KRel P pf (.r i) ms k K):KRel P pf (.r i) ms (.begin i::k) (.beginRound::K)
theorem Nc1 {id:Nat}:∀(ms:List Nat),RO id (ms.map .mark)=none
 | []=>rfl
 | i::ms=>by simp only [N2,RO];exact Nc1 ms
theorem KRel.exit {md:Md} {ms:List Nat} {id:Nat} {k k':List AItem} {K:List Item} (h:KRel P pf md ms k K) (he:RO id k=some k'):∃K',exitTo id K=some K'/\KRel P pf md ms k' K':=by
 induction h with
 | nilN=>simp [RO] at he
 | nilM=>simp only [RO,Nc1] at he;cases he
 | nilR=>simp [RO] at he
 | code h t ih=>simp only [RO] at he;simp only [exitTo];exact ih he
 | inLoop h t ih=>simp only [RO] at he;simp only [exitTo];exact ih he
 | begin t ih=>simp only [RO] at he;simp only [exitTo];exact ih he
 | inBlock t ih=>
   simp only [RO] at he
   simp only [exitTo,beq_iff_eq]
   split at he
   ·rename_i e;rw [Ni e];cases he;exact ⟨_,rfl,t⟩
   ·rename_i e;rw [Ng e];exact ih he
theorem KRel.noExit {md:Md} {ms:List Nat} {id:Nat} {k:List AItem} {K:List Item} (h:KRel P pf md ms k K) (he:RO id k=none):exitTo id K=none:=by
 induction h with
 | nilN=>rfl
 | nilM=>rfl
 | nilR=>rfl
 | code h t ih=>simp only [RO] at he;simp only [exitTo];exact ih he
 | inLoop h t ih=>simp only [RO] at he;simp only [exitTo];exact ih he
 | begin t ih=>simp only [RO] at he;simp only [exitTo];exact ih he
 | inBlock t ih=>
   simp only [RO] at he
   simp only [exitTo,beq_iff_eq]
   split at he
   ·cases he
   ·rename_i e;rw [Ng e];exact ih he
theorem KRel.roundOf {i:Nat} {ms:List Nat} {k:List AItem} {K:List Item} (h:KRel P pf (.r i) ms k K):roundOf k=some i:=by
 generalize a:Md.r i=md at h
 induction h with
 | nilN=>cases a
 | nilM=>cases a
 | nilR=>cases a;rfl
 | code h t ih=>simp only [AM.roundOf];exact ih a
 | inLoop h t ih=>simp only [AM.roundOf];exact ih a
 | begin t ih=>simp only [AM.roundOf];exact ih a
 | inBlock t ih=>simp only [AM.roundOf];exact ih a
theorem Nbk:∀(ms:List Nat),marks (ms.map .mark)=ms.reverse
 | []=>rfl
 | i::ms=>by simp only [N2,marks,Nbk ms,List.reverse_cons]
theorem KRel.marks {ms:List Nat} {k:List AItem} {K:List Item} (h:KRel P pf .m ms k K):marks k=ms.reverse:=by
 generalize a:Md.m=md at h
 induction h with
 | nilN=>cases a
 | nilM=>simp only [AM.marks];exact Nbk _
 | nilR=>cases a
 | code h t ih=>simp only [AM.marks];exact ih a
 | inLoop h t ih=>simp only [AM.marks];exact ih a
 | begin t ih=>cases a
 | inBlock t ih=>simp only [AM.marks];exact ih a
theorem KRel.addMark {ms:List Nat} {k:List AItem} {K:List Item} (h:KRel P pf .m ms k K) (i:Nat):KRel P pf .m (ms++[i]) (k++[.mark i]) K:=by
 generalize a:Md.m=md at h
 induction h with
 | nilN=>cases a
 | @nilM ms=>have:(KRel P pf .m (ms++[i]) (.code .retM::(ms++[i]).map .mark) []):=.nilM
             simpa using this
 | nilR=>cases a
 | code h t ih=>subst a;exact .code h (ih rfl)
 | inLoop h t ih=>subst a;exact .inLoop h (ih rfl)
 | begin t ih=>cases a
 | inBlock t ih=>subst a;exact .inBlock (ih rfl)
def Ngp (lim:Nat) (σ:PK):List Nat->List Deferred->Prop
 | [],ds=>ds=[]
 | i::l,ds=>∃L a,lim<=i/\σ i=some L/\ds={ target:=.collected L.blk,args:=#[] }::a/\Ngp lim σ l a
theorem Ngp.mono {lim:Nat} {σ τ:PK} (a:PK.le σ τ):∀{l:List Nat} {ds:List Deferred},Ngp lim σ l ds->Ngp lim τ l ds
 | [],_,h=>h
 | i::l,_,⟨L,ds',h0,h1,h2,h3⟩=>⟨L,ds',h0,a _ _ h1,h2,Ngp.mono a h3⟩
theorem Inv.pad (h:Inv (Prg.mk P pf) W lim σ H w) (n:Nat):Inv (Prg.mk P pf) W lim σ (H++List.replicate n .dead) w:=by
 have get:∀(j:Nat) b,(H++List.replicate n Blk.dead)[j]? = some b->alive b=true->H[j]? = some b:=fun j b a c=>by
  by_cases hj:j<H.length
  ·rw [N9 hj] at a;exact a
  ·rw [Of (by omega),Pw] at a
   split at a
   ·cases a;simp [alive] at c
   ·cases a
 exact ⟨fun i b a c=>h.blk i b (get i b a c) c,fun i j bi bj Li Lj hi hj d ho c=>h.inj i j bi bj Li Lj (get i bi hi (PP ho)) (get j bj hj c) d ho c,
  fun i b L a ho=>h.wr i b L (get i b a (PP ho)) ho,h.fresh,fun i hi=>h.dom i (by simp at hi;omega)⟩
theorem Ni0 {fr:Nat->Value} {N:Nat} {a:Act} (hs:State (Prg.mk P pf) ds W lim σ N fr H a w) {r:ResultVar} {j:ARes} (ht:ME P r=some j) {v:Value} (d:ND fr H j=some v) :
  ∃v',(match r with | .tmp t=>pure (a.tmps.getD t undef) | .cell b t=>do loadVar t (<-asAddr (a.tmps.getD b undef)):Sem Value).run P w=.ok v' w/\VRel σ v v':=by
 cases r with
 | tmp t=>
   simp only [ME] at ht;cases ht
   simp only [ND] at d;cases d
   exact ⟨_,rfl,hs.fr.val t⟩
 | cell b t=>
   simp only [ME] at ht
   obtain ⟨n,hn,ht⟩:=OA ht
   obtain ⟨k,e,ht⟩:=OA ht
   have f:=hs.fr.val b
   cases k with
   | true=>
     simp at ht;subst ht
     simp only [ND] at d
     split at d
     case h_2=>cases d
     rename_i p hp
     simp only [Nc] at d
     obtain ⟨c,hc,rfl⟩:=d
     rw [hp] at f
     obtain ⟨L,hL,i,h2⟩:=f.ptr_left
     obtain ⟨v',g,h⟩:=Nck (P:=P) hs.inv e hn hL hc
     exact ⟨v',by simp only [h2];simp [asAddr,g],h⟩
   | false=>
     simp at ht;subst ht
     simp only [ND] at d
     split at d
     case h_2=>cases d
     rename_i p hp
     rw [hp] at f
     obtain ⟨L,hL,i,h2⟩:=f.ptr_left
     obtain ⟨v',g,h⟩:=Ncl (P:=P) hs.inv e hL d
     exact ⟨v',by simp only [h2];simp [asAddr,g],h⟩
theorem MO {fr:Nat->Value} {N:Nat} {a:Act} (hs:State (Prg.mk P pf) ds W lim σ N fr H a w):∀{f:List ResultVar} {c:List ARes} {vs:List Value},f.mapM (ME P)=some c->UU fr H c=some vs->
  ∃d,(f.mapM (fun r=>(match r with | .tmp t=>pure (a.tmps.getD t undef) | .cell b t=>do loadVar t (<-asAddr (a.tmps.getD b undef)):Sem Value))).run P w=.ok d w/\OM σ vs d
 | [],c,vs,h,hv=>by
   simp at h;subst h
   simp [UU] at hv;subst hv
   exact ⟨[],by simp,OM.nil⟩
 | r::f,c,vs,h,hv=>by
   rw [List.mapM_cons] at h
   obtain ⟨b,g,h⟩:=OA h
   obtain ⟨k,e,h⟩:=OA h
   cases h
   simp only [UU] at hv
   split at hv
   case h_2=>cases hv
   rename_i v j h1 h2
   cases hv
   obtain ⟨v',k1,k2⟩:=Ni0 hs g h1
   obtain ⟨d,k3,i⟩:=MO hs e h2
   refine ⟨v'::d, ?_,OM.cons k2 i⟩
   rw [List.mapM_cons]
   simp only [Sem.run_bind,k1,k3,Result.andThen_ok,Sem.run_pure]
theorem ZC {fr:Nat->Value} {N:Nat} {a:Act} (hs:State (Prg.mk P pf) ds W lim σ N fr H a w) {fn:Func} {d:List ARes} (ht:fn.results.toList.mapM (ME P)=some d) {v:Value} (c:result fr H d=some v) :
  ∃v',(results fn a.tmps).run P w=.ok v' w/\VRel σ v v':=by
 unfold result at c
 cases hr:UU fr H d with
 | none=>rw [hr] at c;cases c
 | some vs=>
   obtain ⟨b,k1,k2⟩:=MO hs ht hr
   rw [hr] at c
   unfold results
   rw [Array.mapM_eq_mapM_toList]
   simp only [Sem.run_bind,Sem.run_map]
   erw [k1]
   simp only [Result.andThen_ok,Sem.run_pure]
   refine ⟨_,rfl, ?_⟩
   match vs,b,k2 with
   | [],b,k2=>
     have:b=[]:=by have:=k2.1;simp at this;exact List.length_eq_zero_iff.1 this.symm
     subst this
     simp at c;subst c
     exact .atom rfl
   | [x],b,k2=>
     have hl:=k2.1
     match b,hl,k2 with
     | [y],_,k2=>simp at c;subst c;exact k2.head
   | x::y::zs,b,k2=>
     have hl:=k2.1
     match b,hl,k2 with
     | x'::y'::zs',_,k2=>
       simp at c;subst c
       have:¬((x'::y'::zs').toArray.size=1):=by simp
       rw [dif_neg this]
       exact VRel.tuple_iff.2 k2
theorem Inv.loop (h:Inv (Prg.mk P pf) W lim σ H w) {i:Nat} {x:LoopB} {L:Loc} (a:NI H i=.loop x) (hL:σ i=some L):∃lp,w.heap[L.blk]? = some (.loop lp)/\LoopRel (Prg.mk P pf) σ x lp:=by
 obtain ⟨b,h1,h2⟩:=h.blk i _ (RQ a rfl) rfl
 rw [hL] at h1;cases h1
 exact h2
theorem Nec {b:Frame} {a:Act} {todo:List Item} {cs:List Frame}:∀(l:List Nat) (ds:List Deferred) {H H':NE} {w:World},Ngp lim σ l ds->Inv (Prg.mk P pf) W lim σ H w->shut lim l H=some H'->
  ∃w',Steps P (lone { b.atR { a with defers:=ds } todo with mode:=.returning } cs w) (lone { b.atR { a with defers:=[] } todo with mode:=.returning } cs w')/\Inv (Prg.mk P pf) W lim σ H' w'/\Stp W w w'/\H'.length=H.length
 | [],ds,H,H',w,hd,hi,hs=>by
   cases hd;cases hs
   exact ⟨w,.refl _ _,hi,Stp.refl _ _,rfl⟩
 | i::l,ds,H,H',w,hd,hi,hs=>by
   obtain ⟨L,c,h0,h1,rfl,g⟩:=hd
   simp only [shut] at hs
   split at hs
   case h_2=>cases hs
   rename_i e
   rw [Ni h0] at hs
   obtain ⟨n,d,f⟩:=hi.blk i _ (RQ e rfl) rfl
   rw [h1] at d;cases d
   obtain ⟨j,k⟩:=hi.putLoop (o:=.deferred none) (b':=.dead) e rfl h1 h0 trivial (fun h=>by simp [alive] at h)
   obtain ⟨w',k1,k2,k3,m⟩:=Nec l c g j hs
   refine ⟨w',Steps.head (step_collected (fr:={ b.atR { a with defers:=_::c } todo with mode:=.returning }) (by simp) rfl rfl (run_takeDeferred f)) k1,k2,k.trans k3,by simpa using m⟩
theorem Nfo (h:Inv (Prg.mk P pf) W lim σ H w) {i:Nat} {L:Loc} (hL:σ i=some L) (hl:lim<=i) {j:Option ACode} {J:Option Code}
  (hj:match j with | none=>J=none | some c=>∃C,J=some C/\Uk P pf C=some c) {v:Value} (he:endRound i j H=some (v,H')) :
  ∃w',(Instr.endRound L.blk J).run P w=.ok v w'/\VRel σ v v/\Inv (Prg.mk P pf) W lim σ H' w'/\Stp W w w':=by
 unfold endRound at he
 split at he
 case h_2=>cases he
 rename_i x d
 obtain ⟨lp,h1,h2⟩:=h.loop d hL
 have b:J.isNone=j.isNone:=by
  cases j with
  | none=>simp only at hj;subst hj;rfl
  | some c=>obtain ⟨C,rfl,_⟩:=hj;rfl
 have a:L.blk<w.heap.size:=(Array.getElem?_eq_some_iff.1 h1).1
 simp only [Option.some.injEq,Prod.mk.injEq] at he
 obtain ⟨rfl,rfl⟩:=he
 obtain ⟨e,f⟩:=h.putLoop (o:=.loop { lp with state:=if J.isNone then .ready else .done,pending:=J }) (b':=.loop { x with st:=if j.isNone then 0 else 2,pend:=j }) d rfl hL hl
  ⟨_,World.putObj_heap_same a,by rw [b];cases j<;>rfl,hj,h2.size,h2.val,h2.params,h2.assign,h2.body⟩ (fun _=>rfl)
 exact ⟨_,by rw [run_endRound J h1,b],.atom rfl,e,f⟩
end
section
variable {P:Program} {E:Env} {W:Nat->Prop} {lim:Nat} {σ:PK} {H H':NE} {w:World} {ds:List Deferred} {ro:Option Nat}
theorem Ni2 {C:Tw} (b:CallOkS (Prg.mk P (Env.pure E)) C) {pf:FuncId->Bool} {id:Nat} {ops:Array Oper} {l:List AIns} (hl:ops.toList.mapM (Yt P pf ops)=some l) {N:Nat} {fr:Nat->Value} {a:Act}
  (hs:State (Prg.mk P (Env.pure E)) ds W lim σ N fr H a w) {LL} (c:Yi C N lim l fr H=some LL):(Code.region id ops false).wpIn (WF ro) 0 P (fun e a' w'=>∃r∈LL,N51 (Prg.mk P (Env.pure E)) ds W lim σ N r.1 H r.2 w e a' w') a w:=by
 refine wpIn_region ?_
 rw [List.range_eq_range']
 exact ZE b W lim σ H w hl ops.size 0 fr H a w σ LL (fun r hr a i h q1 q2 q3 d f g=>⟨r,hr,rfl,h,q1,q2,q3,d,f,g⟩) (by simp) hs (Stp.refl _ _) (PK.le_refl _) (Grow.refl _ _) (fun j hj=>absurd rfl hj) (Nd _) (by simpa using c)
theorem Todo.start {ops:Array Oper} {ord:List Nat} (a:∀i,i∈ord↔i<ops.size):Todo ops ord (Array.replicate ops.size false) ord:=by
 refine ⟨fun i=>?_,List.Sublist.refl _,by simp,fun i o ho hl=>?_⟩
 ·rw [a]
  constructor
  ·intro hi
   refine ⟨hi, ?_⟩
   rw [N6,Ob (by simpa using hi)]
   simp
  ·exact fun h=>h.1
 ·exfalso
  rw [N6,Array.getElem?_replicate] at hl
  split at hl<;>simp at hl
theorem Ni3 {C:Uc} (l:CallOk (Prg.mk P (Env.pure E)) C) {pf:FuncId->Bool} (o:P.follows .mixedOrders=true) {id:Nat} {ops:Array Oper} {n:Nat} {L:List AIns} (hl:VC P pf ops=some (.drawn n L)) {N:Nat} {fr fr':Nat->Value} {a:Act}
  (hs:State (Prg.mk P (Env.pure E)) ds W lim σ N fr H a w) (p:YP C N lim (some H.length) L fr (H++List.replicate n .dead)=some (fr',H')):(Code.region id ops true).wpIn (WF ro) 0 P (fun e a' w'=>e=.normal/\∃k,State (Prg.mk P (Env.pure E)) ds W lim k N fr' H' a' w'/\Stp W w w'/\PK.le σ k/\(∀j,k j≠σ j->H.length<=j)) a w:=by
 refine wpIn_region_any o ?_
 obtain ⟨ord,L0,pl,rfl⟩:=Nqu hl
 have d:ord.length=ops.size:=by
  have h1:ord.Perm (List.range ops.size):=(List.perm_ext_iff_of_nodup pl.nodup List.nodup_range).2 fun i=>by rw [pl.mem,List.mem_range]
  rw [h1.length_eq,Pr]
 have h:State (Prg.mk P (Env.pure E)) ds W lim σ N fr (H++List.replicate n .dead) a w.drew:=⟨hs.fr,(hs.inv.pad n).drew,by have:=hs.lim;simp;omega⟩
 refine Nid l pl fr' H' W lim hs.lim σ (H++List.replicate n .dead) w.drew (fun a v s q1 q2 q3 t q u=>⟨rfl,s,q1,Stp.drew.trans q2,q3,q⟩) ops.size _ ord fr _ a w.drew σ d (Todo.start pl.mem) h (Stp.refl _ _) (PK.le_refl _) (Grow.refl _ _)
  (fun j hj=>absurd rfl hj) (Nd _) ⟨by simp,fun r hr b c m=>?_,fun r hr=>hs.inv.dom _ (by omega),fun r hr=>?_⟩ ?_
 ·rw [Of (by omega),Pw] at c
  split at c
  ·cases c;simp [alive] at m
  ·cases c
 ·obtain ⟨b,c,g⟩:=List.mem_filterMap.1 hr
  have f:b<L0.length:=by rw [pl.len];exact (pl.mem b).1 c
  exact pl.dest b _ r (by rw [Na,Nf f];rfl) (Nbl g)
 ·exact p
def Fin (P:Program) (md:Md) (b:Frame) (cs:List Frame) (m:Machine) (v':Value) (w':World):Prop:=
 match md with
 | .r _=>∃c cs',cs=c::cs'/\m=lone (c.finish v') cs' w'
 | _=>∃fr,m=lone fr cs w'/\fr.fn=b.fn/\fr.leaving P w' (.returned v')
def Yd (P:Program) (pf:FuncId->Bool) (W:Nat->Prop) (lim:Nat) (σ:PK) (md:Md) (v:Value) (H H':NE) (w:World) (b:Frame) (K:List Item) (cs:List Frame) (a:Act):Prop:=
 ∃m v' w' c,Steps P (lone (b.atR a K) cs w) m/\Fin P md b cs m v' w'/\VRel c v v'/\Inv (Prg.mk P pf) W lim c H' w'/\Stp W w w'/\PK.le σ c/\∀j,c j≠σ j->H.length<=j
theorem Yd.step {pf:FuncId->Bool} {md:Md} {v:Value} {b:Frame} {K c:List Item} {cs:List Frame} {a:Act} (h:step P (lone (b.atR a K) cs w)=.next (lone (b.atR a c) cs w)) (k:Yd P pf W lim σ md v H H' w b c cs a):Yd P pf W lim σ md v H H' w b K cs a:=by
 obtain ⟨a',w',d,fr',h1,h2⟩:=k
 exact ⟨a',w',d,fr',Steps.head h h1,h2⟩
theorem Yd.steps {pf:FuncId->Bool} {md:Md} {v:Value} {b:Frame} {K i:List Item} {cs:List Frame} {a l:Act} {g:World} {c:PK} {H1:NE} (h:Steps P (lone (b.atR a K) cs w) (lone (b.atR l i) cs g)) (f:Stp W w g) (d:PK.le σ c) (hd:∀j,c j≠σ j->H.length<=j) (t:H.length<=H1.length)
  (k:Yd P pf W lim c md v H1 H' g b i cs l):Yd P pf W lim σ md v H H' w b K cs a:=by
 obtain ⟨m,v',w',s,h1,h2,n,o,p,q,r⟩:=k
 refine ⟨m,v',w',s,Steps.trans h h1,h2,n,o,f.trans p,PK.le_trans d q,fun j hj=>?_⟩
 apply Ny
 intro hc
 have e1:c j=σ j:=Ny fun e=>hc (hd j e)
 have:=r j (fun e=>hj (e.trans e1))
 omega
def Rs (P:Program) (pf:FuncId->Bool) (W:Nat->Prop) (lim:Nat) (σ:PK) (md:Md) (R:List (Value×NE)) (H:NE) (w:World) (b:Frame) (K:List Item) (cs:List Frame) (a:Act):Prop:=
 ∃r∈R,Yd P pf W lim σ md r.1 H r.2 w b K cs a
theorem Rs.step {pf:FuncId->Bool} {md:Md} {R:List (Value×NE)} {b:Frame} {K c:List Item} {cs:List Frame} {a:Act} (h:step P (lone (b.atR a K) cs w)=.next (lone (b.atR a c) cs w)) (k:Rs P pf W lim σ md R H w b c cs a):Rs P pf W lim σ md R H w b K cs a:=by
 obtain ⟨r,hr,k⟩:=k
 exact ⟨r,hr,k.step h⟩
theorem Rs.steps {pf:FuncId->Bool} {md:Md} {R i:List (Value×NE)} {b:Frame} {K g:List Item} {cs:List Frame} {a l:Act} {e:World} {f:PK} {H1:NE} (h:Steps P (lone (b.atR a K) cs w) (lone (b.atR l g) cs e)) (d:Stp W w e) (c:PK.le σ f) (hd:∀j,f j≠σ j->H.length<=j) (m:H.length<=H1.length)
  (k:Rs P pf W lim f md i H1 e b g cs l) (n:∀x∈i,x∈R):Rs P pf W lim σ md R H w b K cs a:=by
 obtain ⟨r,hr,k⟩:=k
 exact ⟨r,n r hr,k.steps h d c hd m⟩
def Cx (P:Program) (σ:PK) (md:Md) (af:AFunc) (b:Frame) (cs:List Frame):Prop:=
 b.kind=.normal/\match md with
 | .r i=>∃L c cs',b.roundOf=some L.blk/\σ i=some L/\cs=c::cs'
 | _=>b.roundOf=none/\∃fn,P.funcs[b.fn]? = some fn/\fn.results.toList.mapM (ME P)=some af.results
theorem Cx.mono {σ τ:PK} (a:PK.le σ τ) {md:Md} {af:AFunc} {b:Frame} {cs:List Frame} (h:Cx P σ md af b cs):Cx P τ md af b cs:=by
 refine ⟨h.1, ?_⟩
 have h2:=h.2
 cases md with
 | r i=>obtain ⟨L,c,cs',d,e,f⟩:=h2;exact ⟨L,c,cs',d,a _ _ e,f⟩
 | _=>exact h2
theorem Inv.enterLoop (h:Inv (Prg.mk P (Env.pure E)) W lim σ H w) {x:LoopB} {lp:Loop} (y:LoopRel (Prg.mk P (Env.pure E)) σ x lp) :
  ∃g,Inv (Prg.mk P (Env.pure E)) W lim g (H++[.dfr,.loop x]) ((w.alloc (.deferred (some []))).alloc (.loop lp))/\PK.le σ g/\g H.length=some ⟨w.heap.size,0,0⟩/\g (H.length+1)=some ⟨w.heap.size+1,0,0⟩/\∀j,g j≠σ j->H.length<=j:=by
 have c:∀{H:NE} {w:World} {σ:PK} (h:Inv (Prg.mk P (Env.pure E)) W lim σ H w) {b:Blk} {o:Obj},owned b=true->UL (Prg.mk P (Env.pure E)) (σ.put H.length ⟨w.heap.size,0,0⟩) (w.alloc o) ⟨w.heap.size,0,0⟩ b->Inv (Prg.mk P (Env.pure E)) W lim (σ.put H.length ⟨w.heap.size,0,0⟩) (H++[b]) (w.alloc o):=by
  intro H w σ h b o ho n
  have v:Inv (Prg.mk P (Env.pure E)) W lim σ H (w.alloc o):=h.world (by simp) fun b n=>by rw [U1,Pz];rw [Ng (by omega)]
  obtain ⟨r,s,A,t,B,C,D⟩:=TU (dest:=none) (b:=b) (H:=H) (show place none b H=(H.length,H++[b]) from rfl) (fun d e=>by cases e)
  refine v.adopt r s t (h.dom _ (Nd _)) n ho (h.fresh _ (Nd _)) fun j bj Lj u k m i e=>?_
  obtain ⟨z,h1,h2⟩:=h.blk j bj k m
  rw [i] at h1;cases h1
  have:=h2.lt m
  simp at e
  omega
 have p:=c h (b:=.dfr) (o:=.deferred (some [])) rfl (by show (w.alloc _).heap[_]? = _;simp [U1])
 have f:PK.le σ (σ.put H.length ⟨w.heap.size,0,0⟩):=PK.le_put (h.dom _ (Nd _))
 have l:=p.dom (H.length+1) (by simp)
 have a:=PK.le_put (L:=⟨w.heap.size+1,0,0⟩) l
 have q:=c p (b:=.loop x) (o:=.loop lp) rfl (by
  refine ⟨lp,World.alloc_heap_new _ _, ?_⟩
  simp only [Nn,Nl,Ns,World.size_alloc] at a⊢
  exact (y.mono f).mono a)
 simp only [Nn,Nl,Ns,World.size_alloc,Nq,O2,Ov] at q
 refine ⟨_,q,PK.le_trans f a, ?_,PK.put_same,fun j hj=>?_⟩
 ·simp [PK.put]
 ·apply Ny
  intro hc
  refine hj ?_
  simp only [PK.put]
  rw [Ng (by omega),Ng (by omega)]
theorem Nba (hE:EnvOk P E) (n:Nat) (hC:∀m,m<n->CallOkS (Prg.mk P (Env.pure E)) (R4 E m)):∀(m:Nat),m<=n->∀{md:Md} {ms:List Nat} {ds:List Deferred} {af:AFunc} {k:List AItem} {fr:Nat->Value} {σ:PK} {H:NE} {w:World} {R:List (Value×NE)} {K:List Item} {a:Act} (b:Frame) (cs:List Frame),
   OY E m af lim k fr H=some R->KRel P E.pure md ms k K->(md=.n->ms=[])->Ngp lim σ ms.reverse ds->Cx P σ md af b cs->(∀i,md=.r i->lim<=i)->State (Prg.mk P (Env.pure E)) ds W lim σ af.ntmps fr H a w->
   Rs P E.pure W lim σ md R H w b K cs a:=by
 intro m
 induction m using Nat.strongRecOn with
 | ind m ih=>
 intro hm md ms ds af k fr σ H w R K a b cs hx hK hms hds hcx hri hs
 cases m with
 | zero=>simp [OY] at hx
 | succ m=>
 have ih':∀{k:List AItem} {K:List Item},OY E m af lim k fr H=some R->KRel P E.pure md ms k K->Rs P E.pure W lim σ md R H w b K cs a:=fun hx hK=>ih m (by omega) (by omega) b cs hx hK hms hds hcx hri hs
 have finN:md=.n->∀{todo:List Item},step P (lone (b.atR a K) cs w)=.next (lone { b.atR a todo with mode:=.returning } cs w)->one ((result fr H af.results).map (·,H))=some R->Rs P E.pure W lim σ md R H w b K cs a:=fun hmd todo hst h=>by
  subst hmd
  rw [hms rfl] at hds
  cases hds
  obtain ⟨hk,hro,fn,hfn,hrs⟩:=hcx
  obtain ⟨x,h',rfl⟩:=Vs h
  simp only [Nc] at h'
  obtain ⟨v,h1,rfl⟩:=h'
  obtain ⟨v',h7,h8⟩:=ZC hs hrs h1
  exact ⟨_,Nj.2 rfl,_,v',w,σ,.one hst,⟨_,rfl,rfl,rfl,hs.fr.defers,hk,fn,hfn,h7⟩,h8,hs.inv,Stp.refl _ _,PK.le_refl _,fun j hj=>absurd rfl hj⟩
 have V7:md=.m->marks k=marks k->∀{todo:List Item} {ks:List AItem},marks ks=ms.reverse->step P (lone (b.atR a K) cs w)=.next (lone { b.atR a todo with mode:=.returning } cs w)->
   (match shut lim (marks ks) H with | some H'=>one ((result fr H' af.results).map (·,H')) | none=>none)=some R->Rs P E.pure W lim σ md R H w b K cs a:=fun hmd _ todo ks hmk hst h=>by
  subst hmd
  obtain ⟨hk,hro,fn,hfn,hrs⟩:=hcx
  split at h
  case h_2=>cases h
  rename_i H1 hsh
  rw [hmk] at hsh
  obtain ⟨w1,k1,k2,k3,k4⟩:=Nec (b:=b) (a:=a) (todo:=todo) (cs:=cs) _ ds hds hs.inv hsh
  obtain ⟨x,h',rfl⟩:=Vs h
  simp only [Nc] at h'
  obtain ⟨v,h1,rfl⟩:=h'
  have hs1:State (Prg.mk P (Env.pure E)) ds W lim σ af.ntmps fr H1 a w1:=⟨hs.fr,k2,by rw [k4];exact hs.lim⟩
  obtain ⟨v',h7,h8⟩:=ZC hs1 hrs h1
  have ea:{ a with defers:=ds }=a:=by rw [<-hs.fr.defers]
  rw [ea] at k1
  exact ⟨_,Nj.2 rfl,_,v',w1,σ,Steps.head hst k1,⟨_,rfl,rfl,rfl,rfl,hk,fn,hfn,h7⟩,h8,k2,k3,PK.le_refl _,fun j hj=>absurd rfl hj⟩
 have finR:∀{i:Nat} {j:Option ACode} {J:Option Code},md=.r i->(match j with | none=>J=none | some c=>∃C,J=some C/\Uk P E.pure C=some c)->
   (∀{L c cs' v w'},b.roundOf=some L->b.kind=.normal->cs=c::cs'->(Instr.endRound L J).run P w=.ok v w'->step P (lone (b.atR a K) (c::cs') w)=.next (lone (c.finish v) cs' w'))->
   one (endRound i j H)=some R->Rs P E.pure W lim σ md R H w b K cs a:=fun {i j J} hmd hj hst h=>by
  subst hmd
  obtain ⟨hk,L,c,cs',hro,hL,rfl⟩:=hcx
  obtain ⟨⟨v,H'⟩,h',rfl⟩:=Vs h
  obtain ⟨w1,h1,h2,h3,h4⟩:=Nfo hs.inv hL (hri i rfl) hj h'
  exact ⟨_,Nj.2 rfl,_,v,w1,σ,.one (hst hro hk rfl h1),⟨c,cs',rfl,rfl⟩,h2,h3,h4,PK.le_refl _,fun j hj=>absurd rfl hj⟩
 rw [OY.eq_def] at hx
 simp only at hx
 cases hK with
 | nilN=>exact finN rfl (stepR_end hcx.2.1) hx
 | nilM=>exact V7 rfl rfl (Nbk ms) (stepR_end hcx.2.1) hx
 | @nilR i=>
   simp only at hx
   split at hx
   case isFalse=>cases hx
   exact finR rfl (J:=none) rfl (fun {L c cs' v w'} h1 h2 h3 h4=>stepR_round_end h1 h2 h4) hx
 | inBlock t=>exact Rs.step stepR_inBlock (ih' hx t)
 | inLoop h t=>exact Rs.step stepR_inLoop (ih' hx (.code h (.inLoop h t)))
 | @begin i ms k K t=>
   simp only at hx
   split at hx
   case h_2=>cases hx
   rename_i x hb
   split at hx
   case isFalse=>cases hx
   rename_i hc
   obtain ⟨hk,L,c,cs',hro,hL,rfl⟩:=hcx
   obtain ⟨lp,h1,h2⟩:=hs.inv.loop hb hL
   have hlt:L.blk<w.heap.size:=(Array.getElem?_eq_some_iff.1 h1).1
   obtain ⟨i1,i2⟩:=hs.inv.putLoop (o:=.loop { lp with state:=.busy }) (b':=.loop { x with st:=1 }) hb rfl hL hc.2
    ⟨_,World.putObj_heap_same hlt,rfl,h2.pend,h2.size,h2.val,h2.params,h2.assign,h2.body⟩ (fun _=>rfl)
   have hst:lp.state=.ready:=by rw [h2.st,hc.1];rfl
   refine Rs.steps (.one (stepR_beginRound hro (run_beginRound h1 hst))) i2 (PK.le_refl _) (fun j hj=>absurd rfl hj) (by simp) (ih m (by omega) (by omega) b _ hx t hms hds ⟨hk,L,c,cs',hro,hL,rfl⟩ hri ⟨hs.fr,i1,by have:=hs.lim;simpa using this⟩) (fun x hx=>hx)
 | @code md ms c C k K h t=>
   cases Nta h with
   | skip=>exact Rs.step stepR_skip (ih' hx t)
   | @plain _ id ops l hl=>
     simp only at hx
     obtain ⟨LL,h1,h2⟩:=Nev E l m af lim k fr H _ hx
     have hCm:=hC (m-1) (by omega)
     obtain ⟨e,a1,w1,hq,harr⟩:=Ni2 (ro:=b.roundOf) hCm (id:=id) hl hs h1 b K cs rfl trivial (room_wide _)
     obtain ⟨r,hr,rfl,σ1,q1,q2,q3,q4,q5,q6⟩:=hq
     obtain ⟨m1,R',g1,g2,g3⟩:=h2 r hr
     exact Rs.steps (StepsIn.steps harr) q2 q3 q5 q6 (ih m1 (by omega) (by omega) b cs g2 t hms (hds.mono q3) (hcx.mono q3) hri q1) g3
   | @drawn _ id ops nn L hdr=>
     simp only at hx
     obtain ⟨m1,fr1,H1,h1,h2,h3⟩:=Nhn E L m af lim H.length k fr _ _ hx
     have hCm:=hC (m-1) (by omega)
     obtain ⟨e,a1,w1,hq,harr⟩:=Ni3 (ro:=b.roundOf) hCm.det hE.mixed (id:=id) hdr hs h2 b K cs rfl trivial (room_wide _)
     obtain ⟨rfl,σ1,q1,q2,q3,q5⟩:=hq
     have hlen:H.length<=H1.length:=by
      have key:∀(l:List AIns) (fr fr1:Nat->Value) (H0 H1:NE),lim<=H0.length->YP (det (R4 E (m-1))) af.ntmps lim (some H.length) l fr H0=some (fr1,H1)->H0.length<=H1.length:=by
       intro l
       induction l with
       | nil=>intro fr fr1 H0 H1 _ hx;simp [YP] at hx;rw [hx.2];exact Nd _
       | cons i l ih=>
         intro fr fr1 H0 H1 hl hx
         obtain ⟨f2,H2,g1,g2⟩:=Xt hx
         obtain ⟨g3,_⟩:=Nfd hCm.grow.det g1 (fun b e=>by cases e;exact hs.lim) hl
         have:=ih _ _ _ _ (by omega) g2
         omega
      have:=key L fr fr1 _ H1 (by have:=hs.lim;simp;omega) h2
      simp at this
      omega
     exact Rs.steps (StepsIn.steps harr) q2 q3 q5 hlen (ih m1 (by omega) (by omega) b cs h3 t hms (hds.mono q3) (hcx.mono q3) hri q1) (fun x hx=>hx)
   | seq hx' hy'=>exact Rs.step stepR_seq (ih' hx (.code hx' (.code hy' t)))
   | @cond _ o x y x' y' hok hx' hy'=>
     have hev:=hs.fr.ev hok
     simp only at hx
     cases he:ev fr o<;>rw [he] at hx hev<;>(try (cases hx;done))
     rename_i t'
     have hb:=hev.bool_left
     cases t' with
     | true=>exact Rs.step (stepR_cond hb) (ih' hx (.code hx' t))
     | false=>exact Rs.step (stepR_cond hb) (ih' hx (.code hy' t))
   | block hx'=>exact Rs.step stepR_block (ih' hx (.code hx' (.inBlock t)))
   | loop hx'=>exact Rs.step stepR_loop (ih' hx (.code hx' (.inLoop hx' t)))
   | exit hmd=>
     simp only at hx
     split at hx
     case h_2=>cases hx
     rename_i k' hk'
     obtain ⟨K',h1,h2⟩:=t.exit hk'
     exact Rs.step (stepR_exit h1) (ih' hx h2)
   | @exitR i id=>
     simp only at hx
     split at hx
     ·rename_i k' hk'
      obtain ⟨K',h1,h2⟩:=t.exit hk'
      exact Rs.step (stepR_exit h1) (ih' hx h2)
     ·rename_i hk'
      rw [t.roundOf] at hx
      simp only at hx
      split at hx
      case isFalse=>cases hx
      exact finR rfl (j:=some (.exit id)) (J:=some (.exit id)) ⟨_,rfl,rfl⟩ (fun {L c cs' v w'} h1 h2 h3 h4=>stepR_round_exit h1 h2 (t.noExit hk') h4) hx
   | ret=>exact finN rfl (stepR_ret hcx.2.1) hx
   | retM=>exact V7 rfl rfl t.marks (stepR_ret hcx.2.1) hx
   | retR=>
     simp only at hx
     rw [t.roundOf] at hx
     simp only at hx
     split at hx
     case isFalse=>cases hx
     exact finR rfl (j:=some .retM) (J:=some .ret) ⟨_,rfl,rfl⟩ (fun {L c cs' v w'} h1 h2 h3 h4=>stepR_round_ret h1 h2 h4) hx
   | @rangeF f ps x y x' y' hok hx' hy'=>
     have hCm:=hC m (by omega)
     have hev:=hs.fr.ev hok
     simp only at hx
     split at hx
     case h_2=>cases hx
     rename_i g as hcl
     unfold NC at hcl
     split at hcl
     case h_2=>simp at hcl
     case h_3=>cases hcl
     rename_i g' fi ca hf
     simp only [Option.some.injEq,Prod.mk.injEq,Sum.inl.injEq] at hcl
     obtain ⟨rfl,rfl⟩:=hcl
     rw [hf] at hev
     obtain ⟨fi',ca',hf',hfi,hca⟩:=hev.func_left
     split at hx
     case h_2=>cases hx
     rename_i L2 hcall
     obtain ⟨hk,hro,fn0,hfn0,hrs0⟩:=hcx
     have hxl:LoopRel (Prg.mk P (Env.pure E)) σ ⟨0,none,fr,af.ntmps,ps.toList,x',y'⟩ { state:=.ready,pending:=none,fn:=b.fn,tmps:=a.tmps,params:=ps,assign:=x,body:=y,defers:=w.heap.size }:=
      ⟨rfl,rfl,hs.fr.size,hs.fr.val,rfl,hx',hy'⟩
     obtain ⟨σ1,i1,hle1,hl1,hl2,hch1⟩:=hs.inv.enterLoop hxl
     obtain ⟨fn,g1,g2,g3⟩:=hCm.fn _ _ _ _ _ _ hcall
     have hargs:OM σ1 (fi.toList++[.func (.yield (H.length+1)) #[] #[]]++ca.toList) (fi'.toList++[.func (.yield (w.heap.size+1)) #[] #[]]++ca'.toList):=
      ((hfi.mono hle1).append (OM.cons (.yld hl2) OM.nil)).append (hca.mono hle1)
     have hcalls:=hCm.calls _ _ _ _ _ _ hcall (by have:=hs.lim;simp;omega) W σ1 _ _ i1 hargs
     have hkc:∀v,a.eval (.const v)=v:=fun _=>rfl
     have hbn:fn.body≠none:=fun h=>by rw [h] at g2;cases g2
     have h3':¬(fn.name= "runtime.NumGoroutine"):=by simpa using g3
     have ea:(fi'.toList++[Value.func (.yield (w.heap.size+1)) #[] #[]]++ca'.toList).toArray=fi'++#[Value.func (.yield (w.heap.size+1)) #[] #[]]++ca':=by apply Array.ext';simp
     rw [ea] at hcalls
     have henter:=stepR_rangeFunc (P:=P) (b:=b) (a:=a) (k:=K) (cs:=cs) (w:=w) (g:=f) (ps:=ps) (assign:=x) (body:=y) (f:=g') (args:=fi'++#[Value.func (.yield (w.heap.size+1)) #[] #[]]++ca')
      (show (Instr.enterLoop b.fn a.tmps ps x y b.roundOf).run P w=.ok (w.heap.size+1,[{ target:=.collected w.heap.size,args:=#[] }])
       ((w.alloc (.deferred (some []))).alloc (.loop { state:=.ready,pending:=none,fn:=b.fn,tmps:=a.tmps,params:=ps,assign:=x,body:=y,defers:=w.heap.size })) by rw [hro];exact run_enterLoop_outer _ _ _ _ _)
      (show (resolve a.eval (rangeCall f (w.heap.size+1)) 0).run P _=.ok { target:=.fn (.func g') ca',args:=fi'++#[Value.func (.yield (w.heap.size+1)) #[] #[]] } _ by
       simp [resolve,Deferred.ofValue,hf',hkc];rfl)
      (show (invoke (.fn (.func g') ca') (fi'++#[Value.func (.yield (w.heap.size+1)) #[] #[]])).run P _=.ok (.enter g' _) _ by
       simp [invoke,callFunc,g1,h3',hbn];rfl)
     obtain ⟨e,w3,fr3,⟨⟨v2,H2⟩,hr2,v3,σ3,rfl,q1,q2,q3,q4,q5⟩,hcome,hfr3,hlv⟩:=hcalls (b.atR { a with defers:=[{ target:=.collected w.heap.size,args:=#[] }]++a.defers } (.inRangeFunc (w.heap.size+1)::K)::cs)
     obtain ⟨R',hx,hsub⟩:=Vh hx _ hr2
     simp only at hx q2
     split at hx
     case h_2=>cases hx
     rename_i xx hb
     split at hx
     ·cases hx
     rename_i hst
     have hL3:σ3 (H.length+1)=some ⟨w.heap.size+1,0,0⟩:=q4 _ _ hl2
     obtain ⟨lp,h1,h2⟩:=q2.loop hb hL3
     have hnb:lp.state≠.busy:=fun e=>by
      rw [h2.st] at e
      unfold Oab at e
      split at e<;>first | (cases e;done) | skip
      rename_i h;exact hst h
     have hlimx:lim<=H.length+1:=by have:=hs.lim;omega
     obtain ⟨i3,s3⟩:=q2.putLoop (o:=.loop { lp with state:=.exhausted }) (b':=.dead) hb rfl hL3 hlimx trivial (fun h=>by simp [alive] at h)
     have hall:Steps P (lone (b.atR a (.code (.rangeFunc f ps x y)::K)) cs w) (lone (b.atR { a with defers:=[{ target:=.collected w.heap.size,args:=#[] }]++a.defers } ((lp.pending.map Item.code).toList++K)) cs (w3.putObj (w.heap.size+1) (.loop { lp with state:=.exhausted }))):=by
      refine Steps.head henter (Steps.trans hcome (Steps.head (step_leave_returned hlv) ?_))
      rw [finish_atR_inRangeFunc]
      exact .one (stepR_endRangeFunc (run_endLoop h1 hnb))
     have hst1:Stp W w ((w.alloc (.deferred (some []))).alloc (.loop { state:=.ready,pending:=none,fn:=b.fn,tmps:=a.tmps,params:=ps,assign:=x,body:=y,defers:=w.heap.size })):=
      (Stp.alloc hs.inv.fresh _).trans (Stp.alloc (fun k hk=>hs.inv.fresh k (by simp at hk;omega)) _)
     have hlen2:H.length+2<=H2.length:=by
      have:=(hCm.grow _ _ _ _ _ _ hcall (by have:=hs.lim;simp;omega) _ hr2).1
      simpa using this
     have hle3:PK.le σ σ3:=PK.le_trans hle1 q4
     have hpend:=h2.pend
     refine Rs.steps hall (hst1.trans (q3.trans s3)) hle3 (fun j hj=>?_) (by simp;omega) (ih m (by omega) (by omega) (ms:=ms++[H.length]) (ds:={ target:=.collected w.heap.size,args:=#[] }::ds) b cs hx ?_ (fun h=>by cases h) ?_ ⟨hk,hro,fn0,hfn0,hrs0⟩ (fun i h=>by cases h) ⟨?_,i3,by have:=hs.lim;simp;omega⟩) hsub
     ·apply Ny
      intro hc
      have e1:σ1 j=σ j:=Ny fun e=>hc (hch1 j e)
      have:=q5 j (fun e=>hj (e.trans e1))
      simp at this
      omega
     ·have tm:=t.addMark H.length
      cases hp:xx.pend with
      | none=>rw [hp] at hpend;simp only at hpend;rw [hpend];simpa using tm
      | some c=>
        rw [hp] at hpend
        obtain ⟨C,hC1,hC2⟩:=hpend
        rw [hC1]
        exact .code (md:=.m) hC2 tm
     ·rw [List.reverse_append]
      exact ⟨⟨w.heap.size,0,0⟩,ds,hs.lim,q4 _ _ hl1,rfl,hds.mono hle3⟩
     ·exact ⟨hs.fr.size,by simp [hs.fr.defers],fun t=>(hs.fr.val t).mono hle3⟩
theorem Nqh {as as':List Value} (h:OM σ as as') (fn:Func):FrRel [] σ fn.ntmps (NB as) { tmps:=as'.toArray++Array.replicate (fn.ntmps-as'.toArray.size) undef,defers:=[] }:=by
 refine ⟨by simp;omega,rfl,fun t=>?_⟩
 unfold NB
 rw [N6,Na]
 by_cases ht:t<as.length
 ·have a:t<as'.length:=by rw [<-h.1];exact ht
  rw [Array.getElem?_append_left (by simpa using a),Nf ht]
  simp only [List.getElem?_toArray,Nf a,Pc]
  exact h.2 t _ _ (Nf ht) (Nf a)
 ·have a:as'.toArray.size<=t:=by simp [<-h.1];omega
  rw [Nx (by omega),Array.getElem?_append_right a,Array.getElem?_replicate]
  have b:VRel σ undef undef:=.atom rfl
  split<;>exact b
theorem ZX {pf:FuncId->Bool} {g:FuncId} {af:AFunc} (ht:NT P pf g=some af):∃fn body md c rs,P.funcs[g]? = some fn/\fn.body=some body/\trX P pf md body=some c/\fn.results.toList.mapM (ME P)=some rs/\(fn.name == "runtime.NumGoroutine")=false/\
  ((md=.n/\af={ ntmps:=fn.ntmps,results:=rs,body:=c })\/(md=.m/\af={ ntmps:=fn.ntmps,results:=rs,body:=.seq c .retM })):=by
 unfold NT at ht
 split at ht
 ·rename_i a ha
  cases ht
  unfold Nrr at ha
  obtain ⟨fn,hfn,ht⟩:=OA ha
  obtain ⟨body,hb,ht⟩:=OA ht
  obtain ⟨c,hc,ht⟩:=OA ht
  obtain ⟨rs,hrs,ht⟩:=OA ht
  split at ht
  ·cases ht
  ·rename_i hn
   cases ht
   exact ⟨fn,body,.n,c,rs,hfn,hb,hc,hrs,by simpa using hn,.inl ⟨rfl,rfl⟩⟩
 ·unfold Nrs at ht
  obtain ⟨fn,hfn,ht⟩:=OA ht
  obtain ⟨body,hb,ht⟩:=OA ht
  obtain ⟨c,hc,ht⟩:=OA ht
  obtain ⟨rs,hrs,ht⟩:=OA ht
  split at ht
  ·cases ht
  ·rename_i hn
   cases ht
   exact ⟨fn,body,.m,c,rs,hfn,hb,hc,hrs,by simpa using hn,.inr ⟨rfl,rfl⟩⟩
theorem Nfy (z:EnvOk P E) (n:Nat) (y:∀m,m<n->CallOkS (Prg.mk P (Env.pure E)) (R4 E m)) {g:FuncId} {af:AFunc} (ht:NT P E.pure g=some af) {as as':List Value} {R:List (Value×NE)} (l:OY E n af lim [.code af.body] (NB as) H=some R) (hl:lim<=H.length)
  (f:Inv (Prg.mk P (Env.pure E)) W lim σ H w) (A:OM σ as as'):Calls P g as'.toArray w fun e w'=>∃r∈R,Tx (Prg.mk P (Env.pure E)) W lim σ H r.1 r.2 w e w':=by
 obtain ⟨fn,body,md,c,C,d,B,hc,j,hn,v⟩:=ZX ht
 intro cs
 let b:Frame:={ (default:Frame) with fn:=g,kind:=.normal,roundOf:=none }
 have a:Frame.enter P g as'.toArray .normal=b.atR { tmps:=as'.toArray++Array.replicate (fn.ntmps-as'.toArray.size) undef,defers:=[] } [.code body]:=by
  simp [Frame.enter,Frame.atR,d,B,b]
 have k:State (Prg.mk P (Env.pure E)) [] W lim σ fn.ntmps (NB as) H { tmps:=as'.toArray++Array.replicate (fn.ntmps-as'.toArray.size) undef,defers:=[] } w:=⟨Nqh A fn,f,hl⟩
 rcases v with ⟨rfl,rfl⟩ | ⟨rfl,rfl⟩
 ·obtain ⟨r,hr,m,v',w',x,h1,⟨fr,rfl,h2,o⟩,p,q,s,t,u⟩:=Nba (W:=W) z n y n (Nd _) (ms:=[]) b cs l (.code hc .nilN) (fun _=>rfl) rfl ⟨rfl,rfl,fn,d,j⟩ (fun i h=>by cases h) k
  rw [<-a] at h1
  exact ⟨.returned v',w',fr,⟨r,hr,v',x,rfl,p,q,s,t,u⟩,h1,h2,o⟩
 ·cases n with
  | zero=>simp [OY] at l
  | succ n=>
  rw [OY.eq_def] at l
  simp only at l
  obtain ⟨r,hr,m,v',w',x,h1,⟨fr,rfl,h2,o⟩,p,q,s,t,u⟩:=Nba (W:=W) z (n+1) y n (by omega) (ms:=[]) b cs l (.code hc .nilM) (fun _=>rfl) rfl ⟨rfl,rfl,fn,d,j⟩ (fun i h=>by cases h) k
  rw [<-a] at h1
  exact ⟨.returned v',w',fr,⟨r,hr,v',x,rfl,p,q,s,t,u⟩,h1,h2,o⟩
theorem ZB:∀(ps:List Nat) (as as':List Value) (fr:Nat->Value) (a:Array Value) (N:Nat),as.length=ps.length->(ps.all (·<N))=true->N<=a.size->OM σ as as'->(∀t,VRel σ (fr t) (a.getD t undef))->
  N<=((ps.zip as').foldl (fun (tmps:Array Value) (x:Nat×Value)=>tmps.setIfInBounds x.1 x.2) a).size/\∀t,VRel σ (Tz fr ps as t) (((ps.zip as').foldl (fun (tmps:Array Value) (x:Nat×Value)=>tmps.setIfInBounds x.1 x.2) a).getD t undef)
 | [],as,as',fr,a,N,h,_,hN,ha,hv=>by
   cases as with
   | nil=>exact ⟨by simpa using hN,by simpa [Tz] using hv⟩
   | cons=>simp at h
 | p::ps,as,as',fr,a,N,h,hp,hN,ha,hv=>by
   cases as with
   | nil=>simp at h
   | cons x xs=>
     cases as' with
     | nil=>have:=ha.1;simp at this
     | cons y ys=>
       simp only [List.all_cons,N0,N3] at hp
       simp only [List.zip_cons_cons,Ok,Tz]
       refine ZB ps xs ys _ _ N (by simpa using h) hp.2 (by simpa using hN) ha.tail fun t=>?_
       rw [N6]
       by_cases e:t=p
       ·subst e
        rw [Ni rfl,Array.getElem?_setIfInBounds_self_of_lt (by omega)]
        exact ha.head
       ·rw [Ng e,Pu (fun h=>e h.symm),<-N6]
        exact hv t
theorem Nk8 (y:EnvOk P E) (n:Nat) (v:∀m,m<n->CallOkS (Prg.mk P (Env.pure E)) (R4 E m)) {i:Nat} {x:LoopB} (z:NI H i=.loop x) (l:lim<=i) {as as':List Value} (f:as.length=x.params.length) (g:(x.params.all (·<x.N))=true) {R:List (Value×NE)}
  (A:OY E n ⟨x.N,[],.skip⟩ lim [.code x.assign,.begin i,.code x.body,.round i] (Tz x.fr x.params as) H=some R) (hl:lim<=H.length)
  (d:Inv (Prg.mk P (Env.pure E)) W lim σ H w) (u:OM σ as as') {L:Loc} (hL:σ i=some L) :
  ∃r,w.heap[L.blk]? = some (.loop r)/\as'.toArray.size=r.params.size/\RoundIn Fence.wide 0 P L.blk r.fn (T9 r as'.toArray) r.assign r.body w fun e w'=>∃x∈R,Tx (Prg.mk P (Env.pure E)) W lim σ H x.1 x.2 w e w':=by
 obtain ⟨r,h1,h2⟩:=d.loop z hL
 have p:as'.toArray.size=r.params.size:=by
  have e:=u.1
  rw [<-Array.length_toList (xs:=r.params),h2.params,List.size_toArray];omega
 refine ⟨r,h1,p,trivial,fun c cs _=>?_⟩
 let b:Frame:={ (default:Frame) with fn:=r.fn,kind:=.normal,roundOf:=some L.blk }
 have k:Frame.round L.blk r.fn (T9 r as'.toArray) r.assign r.body .normal=b.atR { tmps:=T9 r as'.toArray,defers:=[] } [.code r.assign,.beginRound,.code r.body]:=by
  simp [Frame.round,Frame.atR,b]
 have o:T9 r as'.toArray=(x.params.zip as').foldl (fun (tmps:Array Value) (x:Nat×Value)=>tmps.setIfInBounds x.1 x.2) r.tmps:=by
  unfold T9
  rw [<-h2.params,<-Array.foldl_toList]
  simp
 obtain ⟨s,t⟩:=ZB (σ:=σ) x.params as as' x.fr r.tmps x.N f g h2.size u h2.val
 rw [<-o] at s t
 obtain ⟨I,q,m,v',w',J,k1,⟨K,cs',e1,rfl⟩,B,C,D,F,G⟩:=Nba (W:=W) y n v n (Nd _) (md:=.r i) (ms:=[]) (ds:=[]) (af:=⟨x.N,[],.skip⟩) (a:={ tmps:=T9 r as'.toArray,defers:=[] }) b (c::cs) A (.code (md:=.r i) h2.assign (.begin (.code (md:=.r i) h2.body .nilR))) (fun h=>by cases h) rfl
  ⟨rfl,L,c,cs,rfl,hL,rfl⟩ (fun j h=>by cases h;exact l) ⟨⟨s,rfl,t⟩,d,hl⟩
 cases e1
 rw [<-k] at k1
 exact ⟨.returned v',w',⟨I,q,v',J,rfl,B,C,D,F,G⟩,comesIn_wide.2 k1⟩
theorem Nan (hE:EnvOk P E):∀n,CallOkS (Prg.mk P (Env.pure E)) (R4 E n):=by
 intro n
 induction n using Nat.strongRecOn with
 | ind n ih=>
 have hgrow:TY (R4 E n):=ZM fun af lim k fr H L hk hx hl=>Nij E n af lim _ _ _ _ (fun x hx b l e=>absurd e (hk x hx b l)) hx hl
 have inv:∀{mp lim g as H L},R4 E n mp lim (.inl g) as H=some L->
   (∃v,E.orc g as=some v/\L=[(v,H)]/\as.all atom=true/\flat 4 v=true)\/
   (∃r,E.eff g as H=some r/\L=[(r.1,H++news r.2)]/\mp=false)\/
   (∃af,E.tr g=some af/\((∃v,E.pure g=true/\L=[(v,H)]/\olds H.length 4 v=true/\∃L0,OY E n af H.length [.code af.body] (NB as) H=some L0/\∀r∈L0,r.1=v)\/(mp=false/\OY E n af lim [.code af.body] (NB as) H=some L))):=by
  intro mp lim g as H L h
  unfold R4 QZ at h
  simp only at h
  split at h
  ·rename_i u hu
   split at h
   ·rename_i hf
    cases h
    simp only [N0] at hf
    exact .inl ⟨u,hu,rfl,hf.1,hf.2⟩
   ·cases h
  split at h
  ·rename_i r hr
   split at h
   ·cases h
   ·rename_i hm
    cases h
    exact .inr (.inl ⟨r,hr,rfl,by simpa using hm⟩)
  ·split at h
   ·cases h
   ·rename_i af haf
    right;right
    refine ⟨af,haf, ?_⟩
    split at h
    ·rename_i hp
     split at h
     ·rename_i u H1 l h1
      split at h
      ·rename_i hall
       split at h
       ·rename_i hf
        cases h
        refine .inl ⟨u,hp,rfl,hf,_,h1,fun r hr=>?_⟩
        rcases Nr.1 hr with rfl | hr
        ·rfl
        ·exact (Ndy _ _ (N8.1 hall r hr)).symm
       ·cases h
      ·cases h
     ·cases h
    ·split at h
     ·cases h
     ·rename_i hmp
      exact .inr ⟨by simpa using hmp,h⟩
 have trOk:∀{g af},E.tr g=some af->∃fn,P.funcs[g]? = some fn/\fn.body.isSome=true/\(fn.name == "runtime.NumGoroutine")=false:=by
  intro g af h
  obtain ⟨fn,body,md,c,rs,hfn,hb,hc,hrs,hn,_⟩:=ZX (hE.tr g af h)
  exact ⟨fn,hfn,by rw [hb];rfl,hn⟩
 have invR:∀{mp lim i as H L},R4 E n mp lim (.inr i) as H=some L->mp=false/\∃x,NI H i=.loop x/\lim<=i/\as.length=x.params.length/\(x.params.all (·<x.N))=true/\
   OY E n ⟨x.N,[],.skip⟩ lim [.code x.assign,.begin i,.code x.body,.round i] (Tz x.fr x.params as) H=some L:=by
  intro mp lim i as H L h
  unfold R4 QZ at h
  simp only at h
  split at h
  ·cases h
  rename_i hmp
  split at h
  ·rename_i x hb
   split at h
   ·rename_i hc
    exact ⟨by simpa using hmp,x,hb,hc.1,hc.2.1,hc.2.2,h⟩
   ·cases h
  ·cases h
 refine { pure:=?_,fn:=?_,calls:=?_,rounds:=?_,grow:=hgrow }
 ·intro mp lim g as H L h
  rcases inv h with ⟨v,e,_⟩ | ⟨r,e,_⟩ | ⟨af,e,_⟩
  ·exact hE.orcFn _ _ _ e
  ·exact hE.effFn _ _ _ _ e
  ·exact trOk e
 ·intro mp lim g as H L h hl W σ w as' hinv ha
  rcases inv h with ⟨v,e,rfl,hat,hfl⟩ | ⟨r,e,rfl,_⟩ | ⟨af,e,⟨v,hp,rfl,hfl,L0,hx,hall⟩ | ⟨_,hx⟩⟩
  case inr.inl=>exact (hE.eff _ _ _ _ e lim hl W σ w as' hinv ha).mono fun en w' hp=>⟨_,Nj.2 rfl,hp⟩
  ·have heq:as'=as:=by
    apply Pn ha.1.symm
    intro i h1 h2
    exact (ha.2 i _ _ (Nf h2) (Nf h1)).eq_of_atom (N8.1 hat _ (by simp))
   subst heq
   refine (hE.orc _ _ _ e w).mono fun en w' hp=>?_
   obtain ⟨rfl,hb⟩:=hp
   refine ⟨_,Nj.2 rfl,v,σ,rfl, ?_,hinv.world hb.size (fun k hk=>hb.block k hk),⟨hb.os,hb.tape,hb.output,hb.size,fun k hk=>hb.block k ?_⟩,PK.le_refl _,fun j hj=>absurd rfl hj⟩
   ·exact hE.orcFlat _ _ _ e σ
   ·rcases Ol k w.heap.size with h | h
    ·exact h
    ·exact absurd (hinv.fresh k h) hk
  ·have hinv':Inv (Prg.mk P (Env.pure E)) (fun k=>w.heap.size<=k) H.length σ H w:=⟨hinv.blk,hinv.inj,fun i b L hb ho hli hL=>by
    have:=(List.getElem?_eq_some_iff.1 hb).1
    omega,fun b hb=>hb,hinv.dom⟩
   refine (Nfy hE n ih (hE.tr _ _ e) hx (Nd _) hinv' ha).mono fun en w' hp=>?_
   obtain ⟨r,hr,v',σ',rfl,h1,h2,h3,h4,h5⟩:=hp
   rw [hall r hr] at h1
   have hsm:∀k,k<w.heap.size->w'.heap[k]? = w.heap[k]?:=fun k hk=>h3.block k (by omega)
   refine ⟨_,Nj.2 rfl,v',σ,rfl,h1.olds (fun i L hi hL=>by rw [<-hL];exact (Ny fun e=>by have:=h5 i (Ne.symm e);omega:σ i=σ' i)) 4 hfl,hinv.world h3.size hsm,⟨h3.os,h3.tape,h3.output,h3.size,fun k hk=>hsm k ?_⟩,PK.le_refl _,fun j hj=>absurd rfl hj⟩
   rcases Ol k w.heap.size with h | h
   ·exact h
   ·exact absurd (hinv.fresh k h) hk
  ·exact Nfy hE n ih (hE.tr _ _ e) hx hl hinv ha
 ·intro mp lim i as H L h hl W σ w as' L0 hinv ha hL
  obtain ⟨_,x,hb,h1,h2,h3,h4⟩:=invR h
  exact Nk8 hE n ih hb h1 h2 h3 h4 hl hinv ha hL
 ·intro lim g as H L h r hr
  cases g with
  | inr i=>obtain ⟨e,_⟩:=invR h;cases e
  | inl g=>
  rcases inv h with ⟨v,_,e,_⟩ | ⟨_,_,_,e⟩ | ⟨af,_,⟨v,_,e,_⟩ | ⟨e,_⟩⟩
  ·subst e;rw [Nj] at hr;subst hr;rfl
  ·cases e
  ·subst e;rw [Nj] at hr;subst hr;rfl
  ·cases e
theorem Inv.nil (w:World):Inv (Prg.mk P (Env.pure E)) (fun k=>w.heap.size<=k) 0 (fun _=>none) [] w:=
 ⟨fun i b a=>by simp at a,fun i j bi bj Li Lj a=>by simp at a,fun i b L a=>by simp at a,fun b a=>a,fun _ _=>rfl⟩
end
end Go.AM


namespace Go.AM
universe u
namespace Sym
abbrev t (n:Nat):Operand:=.tmp n
abbrev k (v:Value):Operand:=.const v
abbrev i (d:Nat) (o:AOp):AIns:=⟨some d,none,o,none,[]⟩
abbrev zT (n:Int):Operand:=k (.int .i64 n)
abbrev mT (a b:Nat):AIns:=i a (.mov (t b))
abbrev lT (a b:Nat):AIns:=i a (.load1 (t b))
abbrev fT (a n b:Nat):AIns:=i a (.fieldAddr n (t b))
abbrev xT (a e b c:Nat):AIns:=i a (.idxAddrS e (t b) (t c))
abbrev St (n a b:Nat):AIns:=⟨none,none,.store n (t a) (t b),none,[]⟩
abbrev Bt (d:Nat) (o:BinOp) (a b:Nat):AIns:=i d (.bin o (t a) (t b))
abbrev Bc (d:Nat) (o:BinOp) (a:Nat) (c:Int):AIns:=i d (.bin o (t a) (zT c))
abbrev Ce (a b:Nat):ACode:=.cond (t a) .skip (.exit b)
abbrev Nt (d a:Nat):AIns:=i d (.lenSlice (t a))
abbrev Gt (d n a:Nat):AIns:=i d (.loadN n (t a))
abbrev Et (d n a:Nat):AIns:=i d (.extract n (t a))
abbrev Ct (d f:Nat) (l:List Operand):AIns:=i d (.call .any (.func f) l)
abbrev Yp (d g:Nat) (o:AOp):AIns:=⟨some d,some (g,true),o,none,[]⟩
abbrev Yq (d g:Nat) (o:AOp):AIns:=⟨some d,some (g,false),o,none,[]⟩
abbrev Pl (d g a:Nat):AIns:=Yp d g (.load1 (t a))
abbrev Ql (d g a:Nat):AIns:=Yq d g (.load1 (t a))
abbrev Pm (d g a:Nat):AIns:=Yp d g (.mov (t a))
abbrev Qm (d g a:Nat):AIns:=Yq d g (.mov (t a))
abbrev Pf (d g n a:Nat):AIns:=Yp d g (.fieldAddr n (t a))
abbrev Qf (d g n a:Nat):AIns:=Yq d g (.fieldAddr n (t a))
abbrev Px (d g e a b:Nat):AIns:=Yp d g (.idxAddrS e (t a) (t b))
abbrev Qx (d g e a b:Nat):AIns:=Yq d g (.idxAddrS e (t a) (t b))
abbrev Pb (d g:Nat) (o:BinOp) (a b:Nat):AIns:=Yp d g (.bin o (t a) (t b))
abbrev Qb (d g:Nat) (o:BinOp) (a b:Nat):AIns:=Yq d g (.bin o (t a) (t b))
abbrev Zm (d:Nat) (c:Int):AIns:=i d (.mov (zT c))
abbrev At (d a b:Nat):AIns:=i d (.pick (t a) (t b) (k (.bool false)))
abbrev Ot (d a b:Nat):AIns:=i d (.pick (t a) (k (.bool true)) (t b))
abbrev Ut (d a:Nat):AIns:=i d (.un .not (t a))
abbrev Kt (d:Nat) (o:AOp) (m:List Nat):AIns:=⟨some d,none,o,none,m⟩
abbrev Wt (d:Nat) (o:AOp) (n:Nat):AIns:=⟨some d,none,o,some n,[]⟩
abbrev Oz (l:List AIns) (c:ACode):ACode:=.seq (.ops l) c
abbrev Ds (n:Nat) (l:List AIns) (c:ACode):ACode:=.seq (.drawn n l) c
abbrev Bl (n:Nat) (c:ACode):ACode:=.block n (.loop c)
abbrev Vi (n:Int):Value:=.int .i64 n
abbrev Vp (b:Nat):Value:=.pointer (some ⟨b,0,none⟩)
abbrev Sa (b:Nat):Option Addr:=some ⟨b,0,none⟩
abbrev Vz:Value:=.slice none 0 0
abbrev Vc (c:List Value):Blk:=.cells false c
end Sym
structure Bx {α:Sort u} (a:α):Type where
def Naz (dt:Bool) (L:List (Value×NE)) (R:Value->NE->Prop):Prop:=(dt=true->∃x,L=[x])/\∀r∈L,R r.1 r.2
theorem Naz.mono {dt:Bool} {L:List (Value×NE)} {R R':Value->NE->Prop} (h:Naz dt L R) (hr:∀v H,R v H->R' v H):Naz dt L R':=⟨h.1,fun r a=>hr _ _ (h.2 r a)⟩
theorem UK {dt:Bool} {v:Value} {H:NE} {R:Value->NE->Prop}:Naz dt [(v,H)] R=R v H:=propext ⟨fun h=>h.2 (v,H) (by simp),fun h=>⟨fun _=>⟨_,rfl⟩,fun r hr=>by rw [Nj] at hr;subst hr;exact h⟩⟩
theorem U5 {dt:Bool} {r:Value×NE} {R:Value->NE->Prop}:Naz dt [r] R=R r.1 r.2:=UK
def PV (E:Env) (af:AFunc) (lim:Nat) (k:List AItem) (fr:Nat->Value) (H:NE) (R:Value->NE->Prop) (_:Bx k:=⟨⟩) (_:Bx R:=⟨⟩):Prop:=
 ∃n L,OY E n af lim k fr H=some L/\Naz E.dt L R
def Wu (E:Env) (mp:Bool) (lim:Nat) (t:FuncId ⊕ Nat) (as:List Value) (H:NE) (R:Value->NE->Prop) (_:Bx R:=⟨⟩):Prop:=
 ∃n L,R4 E n mp lim t as H=some L/\Naz E.dt L R
def NK (E:Env) (mp:Bool) (lim:Nat) (g:FuncId) (as:List Value) (H:NE) (R:Value->NE->Prop) (_:Bx R:=⟨⟩):Prop:=
 ∃n L,R4 E n mp lim (.inl g) as H=some L/\Naz E.dt L R
def WJ (E:Env) (mp:Bool) (lim:Nat) (i:Nat) (as:List Value) (H:NE) (R:Value->NE->Prop) (_:Bx R:=⟨⟩):Prop:=
 ∃n L,R4 E n mp lim (.inr i) as H=some L/\Naz E.dt L R
def dT (E:Env):Env:={ E with dt:=true }
class DT (E:Env) (E':outParam Env):Prop where
 eq:dT E=E'
def RZ (r:Option (Value×NE)) (f:Value->NE->Prop) (_:Bx f:=⟨⟩):Prop:=match r with | some (v,H')=>f v H' | none=>False
def nxK (dt:Bool) (r:Option (List (Value×NE))) (f:Value->NE->Prop) (_:Bx f:=⟨⟩):Prop:=match r with | some L=>Naz dt L f | none=>False
def Nfu (v:Value) (p q:Prop) (_:Bx p:=⟨⟩) (_:Bx q:=⟨⟩):Prop:=match v with | .bool true=>p | .bool false=>q | _=>False
def Ug (v:Value) (b:Bool) (p q:Prop) (_:Bx p:=⟨⟩) (_:Bx q:=⟨⟩):Prop:=match v with | .bool c=>if c=b then p else q | _=>q
theorem Ncx {E:Env} {run:AFunc->Nat->List AItem->(Nat->Value)->NE->Option (List (Value×NE))}:QZ (dT E) run=QZ E run:=rfl
theorem Nsy (E:Env):∀n,OY (dT E) n=OY E n
 | 0=>by funext af lim k fr H;simp [OY]
 | n+1=>by
   have ih:=Nsy E n
   funext af lim k fr H
   rw [OY.eq_def,OY.eq_def E]
   simp only [ih,Ncx]
theorem Nay (E:Env) (n:Nat):R4 (dT E) n=R4 E n:=by unfold R4;rw [Nsy,Ncx]
section
variable {E:Env} {af:AFunc} {lim:Nat} {K:List AItem} {fr:Nat->Value} {H:NE} {R:Value->NE->Prop}
theorem NK.weak {E':Env} [h:DT E E'] {mp:Bool} {g:FuncId} {as:List Value} (hc:NK E' mp lim g as H R):NK E mp lim g as H R:=by
 obtain ⟨n,L,h1,h2⟩:=hc
 obtain rfl:=h.eq
 rw [Nay] at h1
 exact ⟨n,L,h1,fun _=>h2.1 rfl,h2.2⟩
theorem PV.succ {k k1:List AItem} {fr fr1:Nat->Value} {H H1:NE} (h:∀n,OY E (n+1) af lim k fr H=OY E n af lim k1 fr1 H1):PV E af lim k fr H R=PV E af lim k1 fr1 H1 R:=by
 apply propext
 constructor
 ·rintro ⟨n,L,a,hr⟩
  cases n with
  | zero=>simp [OY] at a
  | succ n=>rw [h] at a;exact ⟨n,L,a,hr⟩
 ·rintro ⟨n,L,a,hr⟩
  exact ⟨n+1,L,by rw [h];exact a,hr⟩
theorem Ti {k:List AItem} {r:Option (Value×NE)} (h:∀n,OY E (n+1) af lim k fr H=one r):PV E af lim k fr H R=RZ r R:=by
 apply propext
 constructor
 ·rintro ⟨n,L,a,hr⟩
  cases n with
  | zero=>simp [OY] at a
  | succ n=>
    rw [h] at a
    obtain ⟨x,rfl,rfl⟩:=Vs a
    rw [U5] at hr
    exact hr
 ·intro hk
  cases a:r with
  | none=>rw [a] at hk;exact hk.elim
  | some p=>rw [a] at hk;exact ⟨1,[p],by rw [h,a];rfl,by rw [U5];exact hk⟩
theorem Ns0 {k:List AItem} (h:∀n,OY E (n+1) af lim k fr H=one ((result fr H af.results).map (·,H))):PV E af lim k fr H R=RZ ((result fr H af.results).map (·,H)) R:=Ti h
theorem N5x {a b}:PV E af lim (.code (.seq a b)::K) fr H R=PV E af lim (.code a::.code b::K) fr H R:=PV.succ fun n=>by rw [OY.eq_def]
theorem N2w:PV E af lim (.code .skip::K) fr H R=PV E af lim K fr H R:=PV.succ fun n=>by rw [OY.eq_def]
theorem N2y {l}:PV E af lim (.code (.ops l)::K) fr H R=PV E af lim (.ops none l::K) fr H R:=PV.succ fun n=>by rw [OY.eq_def]
theorem Nxg {m l}:PV E af lim (.code (.drawn m l)::K) fr H R=PV E af lim (.ops (some H.length) l::K) fr (H++List.replicate m .dead) R:=PV.succ fun n=>by rw [OY.eq_def]
theorem N5y:PV E af lim (.code .ret::K) fr H R=RZ ((result fr H af.results).map (·,H)) R:=Ns0 fun n=>by rw [OY.eq_def]
theorem N5z:PV E af lim [] fr H R=RZ ((result fr H af.results).map (·,H)) R:=Ns0 fun n=>by rw [OY.eq_def]
theorem Nxj {id b}:PV E af lim (.code (.block id b)::K) fr H R=PV E af lim (.code b::.inBlock id::K) fr H R:=PV.succ fun n=>by rw [OY.eq_def]
theorem Nn2 {id}:PV E af lim (.inBlock id::K) fr H R=PV E af lim K fr H R:=PV.succ fun n=>by rw [OY.eq_def]
theorem X0 {b}:PV E af lim (.code (.loop b)::K) fr H R=PV E af lim (.code b::.inLoop b::K) fr H R:=PV.succ fun n=>by rw [OY.eq_def]
theorem Uu {b}:PV E af lim (.inLoop b::K) fr H R=PV E af lim (.code b::.inLoop b::K) fr H R:=PV.succ fun n=>by rw [OY.eq_def]
theorem Nn1 {b}:PV E af lim (.ops b []::K) fr H R=PV E af lim K fr H R:=PV.succ fun n=>by rw [OY.eq_def]
theorem Ngn {id K'} (h:RO id K=some K'):PV E af lim (.code (.exit id)::K) fr H R=PV E af lim K' fr H R:=PV.succ fun n=>by rw [OY.eq_def];simp only [h]
theorem N2z {c a b}:PV E af lim (.code (.cond c a b)::K) fr H R=Nfu (ev fr c) (PV E af lim (.code a::K) fr H R) (PV E af lim (.code b::K) fr H R):=by
 cases hc:ev fr c with
 | bool t=>cases t<;>exact PV.succ fun n=>by rw [OY.eq_def];simp only [hc]
 | _=>
   apply propext
   constructor
   ·rintro ⟨n,L,d,hr⟩
    cases n with
    | zero=>simp [OY] at d
    | succ n=>rw [OY.eq_def] at d;simp only [hc] at d;cases d
   ·intro h;exact h.elim
theorem PV.det {k:List AItem} {n m:Nat} {r r':List (Value×NE)} (h:OY E n af lim k fr H=some r) (h':OY E m af lim k fr H=some r'):r=r':=by
 have h1:=VP E (P8 n m) h
 have h2:=VP E (Po n m) h'
 rw [h1] at h2;exact Option.some.inj h2
def Nbr:AOp->Bool
 | .call ..=>true
 | _=>false
def dOk (N:Nat):Option Nat->Bool
 | none=>true
 | some d=>decide (d<N)
def Nts (d:Option Nat) (fr:Nat->Value) (v:Value):Nat->Value:=match d with | none=>fr | some d=>upd fr d v
def gK (N:Nat) (fr:Nat->Value) (g:Option (Nat×Bool)) (p q:Prop) (_:Bx p:=⟨⟩) (_:Bx q:=⟨⟩):Prop:=match RX N fr g with | none=>False | some true=>p | some false=>q
def oK (E:Env) (lim:Nat) (base:Option Nat) (dest:Option Nat) (mask:List Nat) (o:AOp) (fr:Nat->Value) (H:NE) (Q:Value->NE->Prop) (_:Bx Q:=⟨⟩):Prop:=
 match base with
 | none=>∃n L,stepX (R4 E n) lim ⟨none,none,o,dest,mask⟩ (ev fr) H=some L/\Naz E.dt L Q
 | some b=>∃n v H',RB (det (R4 E n)) lim (dest.map (b+·)) o (ev fr) (OD b mask H)=some (v,H')/\Q v (NZ b mask H H')
theorem MQ {N:Nat} {d:Option Nat} (h:dOk N d=true) (v:Value):Y1 N fr d v=some (Nts d fr v):=by
 cases d with
 | none=>rfl
 | some d=>simp [dOk] at h;simp [Y1,Nts,h]
theorem N50 {L:List ((Nat->Value)×NE)} {k:List AItem} (h:∀r∈L,PV E af lim k r.1 r.2 R):∃N,∀r∈L,∃s,OY E N af lim k r.1 r.2=some s/\Naz E.dt s R:=by
 induction L with
 | nil=>exact ⟨0,fun r hr=>by cases hr⟩
 | cons x L ih=>
   obtain ⟨N,c⟩:=ih fun r hr=>h r (by simp [hr])
   obtain ⟨n,s,h1,h2⟩:=h x (by simp)
   refine ⟨max N n,fun r hr=>?_⟩
   rcases Nr.1 hr with rfl | hr
   ·exact ⟨s,VP E (Po N n) h1,h2⟩
   ·obtain ⟨d,a,b⟩:=c r hr
    exact ⟨d,VP E (P8 N n) a,b⟩
theorem Zx {α β:Type} {f:α->Option (List β)} {l:List α} {r:List β} (h:Ua f l=some r) (d:∀x∈l,∀s,f x=some s->s≠[]) {y:β} (hr:r=[y]):∃x,l=[x]:=by
 cases l with
 | nil=>simp [Ua] at h;rw [<-h] at hr;cases hr
 | cons a l=>
   cases l with
   | nil=>exact ⟨a,rfl⟩
   | cons b l=>
     simp only [Ua] at h
     split at h
     ·rename_i s t hs ht
      split at ht
      ·rename_i e i c g
       cases ht
       cases h
       have h1:=d a (by simp) s hs
       have h2:=d b (by simp) e c
       cases s with
       | nil=>exact absurd rfl h1
       | cons _ s=>
         cases e with
         | nil=>exact absurd rfl h2
         | cons _ _=>simp at hr
      ·cases ht
     ·cases h
theorem Nxh {x:AIns} {l:List AIns}:PV E af lim (.ops none (x::l)::K) fr H R=∃n L,Mm (R4 E n) af.ntmps lim x fr H=some L/\(E.dt=true->∃y,L=[y])/\∀r∈L,PV E af lim (.ops none l::K) r.1 r.2 R:=by
 apply propext
 constructor
 ·rintro ⟨n,L,a,hr⟩
  cases n with
  | zero=>simp [OY] at a
  | succ n=>
    rw [OY.eq_def] at a
    simp only at a
    split at a
    ·rename_i L0 h1
     refine ⟨n,L0,h1,fun hd=>?_,fun r b=>?_⟩
     ·obtain ⟨y,h⟩:=hr.1 hd
      exact Zx a (fun x _ s hs=>Zz E _ _ _ _ _ _ _ hs) h
     ·obtain ⟨s,hs,g⟩:=Vh a r b
      refine ⟨n,s,hs,fun hd=>?_,fun q j=>hr.2 q (g q j)⟩
      obtain ⟨y,h⟩:=hr.1 hd
      obtain ⟨z,m⟩:=Zx a (fun x _ s hs=>Zz E _ _ _ _ _ _ _ hs) h
      subst m
      rw [Nj] at b
      subst b
      simp only [Ua,hs,Option.some.injEq,Nb] at a
      exact ⟨y,a.trans h⟩
    ·cases a
 ·rintro ⟨n,L0,h1,hd,h2⟩
  obtain ⟨N,i⟩:=N50 h2
  have e:Mm (QZ E (OY E (max n N))) af.ntmps lim x fr H=some L0:=Nbs (Wn E (P8 n N)) h1
  obtain ⟨L,hL⟩:=Yb (f:=fun r:(Nat->Value)×NE=>OY E (max n N) af lim (.ops none l::K) r.1 r.2) (l:=L0) fun r hr=>by
   obtain ⟨s,hs,_⟩:=i r hr
   exact ⟨s,VP E (Po n N) hs⟩
  refine ⟨max n N+1,L,by rw [OY.eq_def];simp only [e,hL],fun d=>?_,fun q j=>?_⟩
  ·obtain ⟨y,rfl⟩:=hd d
   obtain ⟨s,hs,ho⟩:=i y (by simp)
   have c:=VP E (Po n N) hs
   simp only [Ua,c,Option.some.injEq,Nb] at hL
   obtain ⟨z,m⟩:=ho.1 d
   exact ⟨z,by rw [<-hL,m]⟩
  ·obtain ⟨r,hr,s,hs,k⟩:=Vj hL q j
   obtain ⟨o,c,ho⟩:=i r hr
   have:=PV.det hs c
   subst this
   exact ho.2 q k
theorem Nxi {b:Nat} {x:AIns} {l:List AIns}:PV E af lim (.ops (some b) (x::l)::K) fr H R=∃n,∃fr' H',TP (det (R4 E n)) af.ntmps lim (some b) x fr H=some (fr',H')/\PV E af lim (.ops (some b) l::K) fr' H' R:=by
 apply propext
 constructor
 ·rintro ⟨n,L,a,hr⟩
  cases n with
  | zero=>simp [OY] at a
  | succ n=>
    rw [OY.eq_def] at a
    simp only at a
    split at a
    ·rename_i fr' H1 h1
     exact ⟨n,fr',H1,h1,n,L,a,hr⟩
    ·cases a
 ·rintro ⟨n,fr',H1,h1,m,L,a,hr⟩
  refine ⟨max n m+1,L, ?_,hr⟩
  rw [OY.eq_def]
  simp only
  have e:TP (det (QZ E (OY E (max n m)))) af.ntmps lim (some b) x fr H=some (fr',H1):=Mo (Wn E (P8 n m)).det h1
  rw [e]
  exact VP E (Po n m) a
theorem N7b {base d g o dest mask l} (hd:dOk af.ntmps d=true):PV E af lim (.ops base (⟨d,g,o,dest,mask⟩::l)::K) fr H R =
  gK af.ntmps fr g (oK E lim base dest mask o fr H fun v H'=>PV E af lim (.ops base l::K) (Nts d fr v) H' R) (PV E af lim (.ops base l::K) (Nts d fr undef) H R):=by
 cases base with
 | none=>
   rw [Nxh]
   unfold gK Mm
   simp only
   cases hw:RX af.ntmps fr g with
   | none=>simp
   | some t=>
     cases t with
     | false=>
       simp only [MQ hd,Nu,Option.some.injEq]
       apply propext
       constructor
       ·rintro ⟨n,L,rfl,_,h⟩
        exact h _ (Nj.2 rfl)
       ·intro h
        exact ⟨0,_,rfl,fun _=>⟨_,rfl⟩,fun r hr=>by rw [Nj] at hr;subst hr;exact h⟩
     | true=>
       simp only [oK]
       have j:∀n,stepX (R4 E n) lim ⟨d,g,o,dest,mask⟩ (ev fr) H=stepX (R4 E n) lim ⟨none,none,o,dest,mask⟩ (ev fr) H:=fun n=>rfl
       have k:∀L:List (Value×NE),YA (fun r:Value×NE=>(Y1 af.ntmps fr d r.1).map (·,r.2)) L=some (L.map fun r=>(Nts d fr r.1,r.2)):=fun L=>by
        induction L with
        | nil=>rfl
        | cons x L ih=>rw [YA,ih,MQ hd];rfl
       simp only [j]
       apply propext
       constructor
       ·rintro ⟨n,L,h1,c,h2⟩
        split at h1
        ·rename_i L0 i
         rw [k] at h1
         cases h1
         refine ⟨n,L0,i,fun he=>?_,fun r hr=>h2 _ (List.mem_map.2 ⟨r,hr,rfl⟩)⟩
         obtain ⟨y,m⟩:=c he
         cases L0 with
         | nil=>cases m
         | cons a L0=>
           cases L0 with
           | nil=>exact ⟨a,rfl⟩
           | cons b L0=>simp at m
        ·cases h1
       ·rintro ⟨n,L0,h1,c,h2⟩
        refine ⟨n,L0.map fun r=>(Nts d fr r.1,r.2),by rw [h1];exact k L0,fun he=>?_,fun r hr=>?_⟩
        ·obtain ⟨y,rfl⟩:=c he
         exact ⟨_,rfl⟩
        ·obtain ⟨q,w,rfl⟩:=List.mem_map.1 hr
         exact h2 q w
 | some b=>
   rw [Nxi]
   unfold gK TP Tc
   simp only
   cases hw:RX af.ntmps fr g with
   | none=>simp
   | some t=>
     cases t with
     | false=>
       simp only [Nc,Prod.mk.injEq,MQ hd]
       apply propext
       constructor
       ·rintro ⟨n,fr',H',⟨f,h1,h2,s⟩,e⟩
        cases h1;subst h2 s;exact e
       ·intro h
        exact ⟨0,_,_,⟨_,rfl,rfl,rfl⟩,h⟩
     | true=>
       simp only [oK]
       apply propext
       constructor
       ·rintro ⟨n,fr',H',h1,e⟩
        split at h1
        ·rename_i v H1 i
         split at i
         ·rename_i v' p u
          cases i
          rw [MQ hd] at h1
          simp only [Nu,Option.some.injEq,Prod.mk.injEq] at h1
          obtain ⟨rfl,rfl⟩:=h1
          exact ⟨n,v,p,u,e⟩
         ·cases i
        ·cases h1
       ·rintro ⟨n,v,H',h1,e⟩
        refine ⟨n,_,_, ?_,e⟩
        rw [h1]
        simp only [MQ hd,Nu]
theorem N42 {N:Nat} {p q:Prop}:gK N fr none p q=p:=rfl
theorem N41 {N g:Nat} {b:Bool} {p q:Prop} (h:g<N):gK N fr (some (g,b)) p q=Ug (fr g) b p q:=by
 unfold gK RX Ug
 simp only [h,if_true]
 cases fr g<;>simp
 rename_i c
 cases c<;>cases b<;>simp
variable {base dest:Option Nat} {mask:List Nat} {o:AOp} {Q:Value->NE->Prop}
theorem Ntg {C:Uc} {ρ:Operand->Value} (h:Nbr o=false):RB C lim dest o ρ H=NJ lim dest o ρ H:=by
 cases o<;>first | rfl | (simp [Nbr] at h)
theorem Nyb {C:Tw} {ρ:Operand->Value} (h:Nbr o=false):stepX C lim ⟨none,none,o,none,mask⟩ ρ H=(NJ lim none o ρ H).map fun r=>[r]:=by
 unfold stepX
 cases o<;>first | rfl | (simp [Nbr] at h)
theorem PG (h:Nbr o=false):oK E lim none none mask o fr H Q=RZ (NJ lim none o (ev fr) H) Q:=by
 unfold oK RZ
 simp only [Nyb h]
 cases NJ lim none o (ev fr) H with
 | none=>simp
 | some p=>exact propext ⟨by rintro ⟨_,_,h,q⟩;cases h;rw [U5] at q;exact q,fun q=>⟨0,_,rfl,by rw [U5];exact q⟩⟩
theorem OU {b:Nat} (h:Nbr o=false):oK E lim (some b) dest mask o fr H Q=RZ (NJ lim (dest.map (b+·)) o (ev fr) (OD b mask H)) fun v H'=>Q v (NZ b mask H H'):=by
 unfold oK RZ
 simp only [Ntg h]
 cases NJ lim (dest.map (b+·)) o (ev fr) (OD b mask H) with
 | none=>simp
 | some p=>exact propext ⟨by rintro ⟨_,_,_,h,q⟩;cases h;exact q,fun q=>⟨0,_,_,rfl,q⟩⟩
theorem Nzj {x:Operand}:oK E lim none (some 1) mask (.mov x) fr H Q=RZ (U4 (ev fr x) H) Q:=by
 unfold oK RZ stepX Nd7
 simp only
 cases U4 (ev fr x) H with
 | none=>simp
 | some p=>exact propext ⟨by rintro ⟨_,_,h,q⟩;cases h;rw [U5] at q;exact q,fun q=>⟨0,_,rfl,by rw [U5];exact q⟩⟩
theorem N4d {x:Operand}:oK E lim none (some 2) mask (.mov x) fr H Q=nxK E.dt (ZN lim (ev fr x) H) Q:=by
 unfold oK nxK stepX Nd7
 simp only
 cases ZN lim (ev fr x) H with
 | none=>simp
 | some L=>exact propext ⟨by rintro ⟨_,_,h,q⟩;cases h;exact q,fun q=>⟨0,_,rfl,q⟩⟩
theorem Nzl {x:Operand}:oK E lim none (some 3) mask (.mov x) fr H Q=RZ (YT (ev fr x) H) Q:=by
 unfold oK RZ stepX Nd7
 simp only
 cases YT (ev fr x) H with
 | none=>simp
 | some p=>exact propext ⟨by rintro ⟨_,_,h,q⟩;cases h;rw [U5] at q;exact q,fun q=>⟨0,_,rfl,by rw [U5];exact q⟩⟩
def Nj8 (c:Option ((FuncId ⊕ Nat)×List Value)) (f:FuncId ⊕ Nat->List Value->Prop) (_:Bx f:=⟨⟩):Prop:=match c with | some (g,as)=>f g as | none=>False
theorem Nb4 {mp:Bool} {g:FuncId} {as:List Value}:Wu E mp lim (.inl g) as H Q=NK E mp lim g as H Q:=rfl
theorem Nip {mp:Bool} {i:Nat} {as:List Value}:Wu E mp lim (.inr i) as H Q=WJ E mp lim i as H Q:=rfl
theorem Nwb {g:FuncId ⊕ Nat} {as:List Value} {f:FuncId ⊕ Nat->List Value->Prop}:Nj8 (some (g,as)) f=f g as:=rfl
theorem Nlf:CM.any.isPure=false:=id rfl
theorem Ntt:CM.pure.isPure=true:=id rfl
theorem N3u:CM.mk.isPure=false:=id rfl
def CM.free:CM->Bool
 | .maps | .recs=>false
 | _=>true
theorem N1f:CM.free .any=true:=id rfl
theorem Nvj:CM.free .pure=true:=id rfl
theorem N43:CM.free .mk=true:=id rfl
theorem Np0 {H:NE} {p:Addr}:loadX none H p=loadCell H p:=id rfl
theorem Npz {H:NE} {p:Addr} {k:Nat}:loadX (some k) H p=(loadCells H p k).map fun c=>.agg c.toArray:=id rfl
theorem Nqa {ro:Bool} {p:Option Addr} {l:List Value}:TM (.cells ro (.pointer p::l))=true:=id rfl
theorem Njw {ro:Bool} {p:Option Addr} {n c:Nat} {l:List Value}:TM (.cells ro (.slice p n c::l))=true:=id rfl
theorem Nqb {ro:Bool} {k:IntKind} {n:Int} {l:List Value}:TM (.cells ro (.int k n::l))=TM (.cells ro l):=id rfl
theorem N4l {H:NE}:CM.any.lim lim H=lim:=id rfl
theorem Nz5 {H:NE}:CM.pure.lim lim H=lim:=id rfl
theorem N8d {H:NE}:CM.mk.lim lim H=H.length:=id rfl
theorem Ne3 {mp:CM} (a:mp.free=true) {H:NE}:∀L:List (Value×NE),YA (fun r=>V7 mp H (some r)) L=some L
 | []=>rfl
 | x::L=>by
   have e:V7 mp H (some x)=some x:=by cases mp<;>first | rfl | cases a
   simp only [YA,e,Ne3 a L]
theorem N4e {mp:CM} {f:Operand} {args:List Operand} (a:mp.free=true):oK E lim none none mask (.call mp f args) fr H Q=Nj8 (NC (ev fr f) (args.map (ev fr))) fun g as=>Wu E mp.isPure (mp.lim lim H) g as H Q:=by
 unfold oK Nj8 Wu
 simp only [stepX,Yv]
 cases NC (ev fr f) (args.map (ev fr)) with
 | none=>simp
 | some p=>
   obtain ⟨g,as⟩:=p
   simp only
   apply propext
   constructor
   ·rintro ⟨n,L,h,q⟩
    split at h
    ·rename_i L0 h0
     rw [Ne3 a] at h
     cases h
     exact ⟨n,L,h0,q⟩
    ·cases h
   ·rintro ⟨n,L,h,q⟩
    exact ⟨n,L,by rw [h];exact Ne3 a L,q⟩
theorem Nal {C:Tw} {mp:Bool} {t:FuncId ⊕ Nat} {as:List Value} {p:Value×NE}:det C mp lim t as H=some p↔C mp lim t as H=some [p]:=by
 unfold det
 constructor
 ·exact fun h=>SQ h
 ·intro h;rw [h];rfl
theorem Nzm {E':Env} [hE:DT E E'] {b:Nat} {mp:CM} {f:Operand} {args:List Operand} (a:mp.free=true):oK E lim (some b) dest mask (.call mp f args) fr H Q=Nj8 (NC (ev fr f) (args.map (ev fr))) fun g as=>Wu E' mp.isPure (mp.lim lim (OD b mask H)) g as (OD b mask H) fun v H'=>Q v (NZ b mask H H'):=by
 obtain rfl:=hE.eq
 unfold oK Nj8 RB Wu
 simp only
 cases NC (ev fr f) (args.map (ev fr)) with
 | none=>simp
 | some p=>
   obtain ⟨g,as⟩:=p
   have e:∀r,V7 mp (OD b mask H) r=r:=fun r=>by cases mp<;>first | rfl | cases a
   simp only [e,Nal,Nay]
   apply propext
   constructor
   ·rintro ⟨n,v,H',h,q⟩
    exact ⟨n,_,h,by rw [UK];exact q⟩
   ·rintro ⟨n,L,h,q⟩
    obtain ⟨⟨v,H'⟩,rfl⟩:=q.1 rfl
    rw [UK] at q
    exact ⟨n,v,H',h,q⟩
theorem Nzk {E':Env} [hE:DT E E'] {b:Nat} {f:Operand} {args:List Operand}:oK E lim (some b) dest mask (.call .maps f args) fr H Q=Nj8 (NC (ev fr f) (args.map (ev fr))) fun g as=>Wu E' false lim g as (OD b mask H) fun v H'=>VU (OD b mask H) H'=true/\Q v (NZ b mask H H'):=by
 obtain rfl:=hE.eq
 unfold oK Nj8 Wu
 simp only [RB]
 cases NC (ev fr f) (args.map (ev fr)) with
 | none=>simp
 | some p=>
   obtain ⟨g,as⟩:=p
   simp only [Nay]
   apply propext
   constructor
   ·rintro ⟨n,v,H',h,q⟩
    obtain ⟨h1,h2⟩:=Td h
    exact ⟨n,_,Nal.1 h1,by rw [UK];exact ⟨h2 rfl,q⟩⟩
   ·rintro ⟨n,L,h1,q⟩
    obtain ⟨⟨v,H'⟩,rfl⟩:=q.1 rfl
    rw [UK] at q
    obtain ⟨h2,q⟩:=q
    refine ⟨n,v,H', ?_,q⟩
    show V7 .maps (OD b mask H) (det (R4 E n) false lim g as (OD b mask H))=some (v,H')
    rw [Nal.2 h1]
    simp only [V7,Ni h2]
theorem Nzi {E':Env} [hE:DT E E'] {b:Nat} {f:Operand} {args:List Operand}:oK E lim (some b) dest mask (.call .recs f args) fr H Q=Nj8 (NC (ev fr f) (args.map (ev fr))) fun g as=>Wu E' false lim g as (OD b mask H) fun v H'=>Xf (OD b mask H) H'=true/\Q v (NZ b mask H H'):=by
 obtain rfl:=hE.eq
 unfold oK Nj8 Wu
 simp only [RB]
 cases NC (ev fr f) (args.map (ev fr)) with
 | none=>simp
 | some p=>
   obtain ⟨g,as⟩:=p
   simp only [Nay]
   apply propext
   constructor
   ·rintro ⟨n,v,H',h,q⟩
    have h2:=Nbx h
    exact ⟨n,_,Nal.1 (Td h).1,by rw [UK];exact ⟨h2,q⟩⟩
   ·rintro ⟨n,L,h1,q⟩
    obtain ⟨⟨v,H'⟩,rfl⟩:=q.1 rfl
    rw [UK] at q
    obtain ⟨h2,q⟩:=q
    refine ⟨n,v,H', ?_,q⟩
    show V7 .recs (OD b mask H) (det (R4 E n) false lim g as (OD b mask H))=some (v,H')
    rw [Nal.2 h1]
    simp only [V7,Ni h2]
theorem Wu.all {mp:Bool} {t:FuncId ⊕ Nat} {as:List Value} {n:Nat} {L:List (Value×NE)} (h:R4 E n mp lim t as H=some L):Wu E mp lim t as H Q=Naz E.dt L Q:=by
 apply propext
 constructor
 ·rintro ⟨m,b,h1,h2⟩
  have e1:=Wn E (P8 n m) _ _ _ _ _ _ h
  have e2:=Wn E (Po n m) _ _ _ _ _ _ h1
  rw [e1] at e2;cases e2;exact h2
 ·exact fun a=>⟨n,L,h,a⟩
theorem NK.det {mp:Bool} {g:FuncId} {as:List Value} {n:Nat} {v:Value} {H':NE} (h:R4 E n mp lim (.inl g) as H=some [(v,H')]):NK E mp lim g as H Q=Q v H':=by
 rw [<-Nb4,Wu.all h,UK]
theorem Nxo {mp:Bool} {g:FuncId} {as:List Value} {v:Value} (ho:E.orc g as=none/\E.eff g as H=none) (ht:E.tr g=some af) (hp:E.pure g=true) (b:olds H.length 4 v=true) (h:PV E af H.length [.code af.body] (NB as) H fun v' _=>v'=v):NK E mp lim g as H Q=Q v H:=by
 obtain ⟨n,L,h1,hd,h2⟩:=h
 have hL:=Zz E _ _ _ _ _ _ _ h1
 cases L with
 | nil=>exact absurd rfl hL
 | cons x L=>
   obtain ⟨v',H'⟩:=x
   have e1:v'=v:=h2 _ (Nm)
   subst e1
   have a:(L.all fun r=>RJ v' r.1)=true:=N8.2 fun r hr=>by
    have:r.1=v':=h2 r (Nk _ hr)
    rw [this];exact ZW v'
   exact NK.det (n:=n) (by unfold R4 QZ;simp only [ho.1,ho.2,ht,hp,if_true,h1,a,b])
theorem M8 {mp:Bool} {g:FuncId} {as:List Value} {v:Value} (ho:E.orc g as=none/\E.eff g as H=none) (ht:E.tr g=some af) (hp:E.pure g=true) (a:flat 4 v=true) (h:PV E af H.length [.code af.body] (NB as) H fun v' _=>v'=v):NK E mp lim g as H Q=Q v H:=
 Nxo ho ht hp (XJ 4 a) h
theorem Nxn {mp:Bool} {g:FuncId} {as:List Value} {v:Value} (ho:E.orc g as=some v) (a:as.all atom=true) (b:flat 4 v=true):NK E mp lim g as H Q=Q v H:=
 NK.det (n:=0) (by unfold R4 QZ;simp only [ho,a,b,Bool.and_self,if_true])
theorem SF {mp:Bool} {g:FuncId} {as:List Value} (ho:E.orc g as=none/\E.eff g as H=none) (ht:E.tr g=some af) (hp:E.pure g=false) (a:mp=false):NK E mp lim g as H Q=PV E af lim [.code af.body] (NB as) H Q:=by
 unfold NK PV R4 QZ
 simp only [ho.1,ho.2,ht,hp,a,Nz,if_false]
theorem Nxp {g:FuncId} {as:List Value} {r:Value×List (List Value)} (ho:E.orc g as=none) (he:E.eff g as H=some r):NK E false lim g as H Q=Q r.1 (H++news r.2):=
 NK.det (n:=0) (by unfold R4 QZ;simp only [ho,he,Nz,if_false])
end
section
variable {E:Env} {af:AFunc} {lim:Nat} {K:List AItem} {fr fr':Nat->Value} {H H':NE} {R:Value->NE->Prop}
theorem Nyx {v:Value} {f:Value->NE->Prop}:RZ (some (v,H)) f=f v H:=rfl
theorem upd_same {d:Nat} {v:Value}:upd fr d v d=v:=by simp [upd]
theorem upd_ne {d t:Nat} {v:Value} (h:t≠d):upd fr d v t=fr t:=by simp [upd,h]
theorem N8j {t:Nat}:ev fr (.tmp t)=fr t:=rfl
theorem N1k {v:Value}:ev fr (.const v)=v:=rfl
theorem N44 {f:FuncId}:ev fr (.func f)=.func (.func f) #[] #[]:=rfl
theorem NR {X:NE} {j:Nat} (h:j<H.length):NI (H++X) j=NI H j:=by
 unfold NI;rw [Na,Na,N9 h]
theorem OC {X:NE} {j:Nat}:NI (H++X) (H.length+j)=X.getD j .dead:=by
 unfold NI;rw [Na,Na,Of (by omega)];simp
theorem NV {X:NE}:NI (H++X) H.length=X.getD 0 .dead:=OC (j:=0)
theorem Niy {X:NE} {j:Nat} {b:Blk}:(H++X).set (H.length+j) b=H++X.set j b:=by
 rw [Qd _ _ (by omega)];simp
theorem Nk3 {X:NE} {b:Blk}:(H++X).set H.length b=H++X.set 0 b:=Niy (j:=0)
theorem Nz0 {b:Nat}:OD b [] H=H:=rfl
theorem Nn8 {b:Nat} {H0:NE}:NZ b [] H0 H=H:=rfl
end
section
variable {E:Env} {lim b:Nat} {dest:Option Nat} {mask:List Nat} {fr:Nat->Value} {H:NE} {Q:Value->NE->Prop}
theorem N7x {a:Operand}:oK E lim none none mask (.mov a) fr H Q=RZ (NJ lim none (.mov a) (ev fr) H) Q:=PG rfl
theorem N71 {a:Operand}:oK E lim (some b) dest mask (.mov a) fr H Q=RZ (NJ lim (dest.map (b+·)) (.mov a) (ev fr) (OD b mask H)) fun v H'=>Q v (NZ b mask H H'):=OU rfl
theorem N31 {c a b:Operand}:oK E lim none none mask (.pick c a b) fr H Q=RZ (NJ lim none (.pick c a b) (ev fr) H) Q:=PG rfl
theorem N38 {d a c:Operand}:oK E lim (some b) dest mask (.pick d a c) fr H Q=RZ (NJ lim (dest.map (b+·)) (.pick d a c) (ev fr) (OD b mask H)) fun v H'=>Q v (NZ b mask H H'):=OU rfl
theorem N70 {a:BinOp} {b c:Operand}:oK E lim none none mask (.bin a b c) fr H Q=RZ (NJ lim none (.bin a b c) (ev fr) H) Q:=PG rfl
theorem N74 {a:BinOp} {c d:Operand}:oK E lim (some b) dest mask (.bin a c d) fr H Q=RZ (NJ lim (dest.map (b+·)) (.bin a c d) (ev fr) (OD b mask H)) fun v H'=>Q v (NZ b mask H H'):=OU rfl
theorem N7y {a:Bool} {b:EqKind} {c d:Operand}:oK E lim none none mask (.eqv a b c d) fr H Q=RZ (NJ lim none (.eqv a b c d) (ev fr) H) Q:=PG rfl
theorem N72 {a:Bool} {c:EqKind} {d e:Operand}:oK E lim (some b) dest mask (.eqv a c d e) fr H Q=RZ (NJ lim (dest.map (b+·)) (.eqv a c d e) (ev fr) (OD b mask H)) fun v H'=>Q v (NZ b mask H H'):=OU rfl
theorem Oa0 {a:UnOp} {b:Operand}:oK E lim none none mask (.un a b) fr H Q=RZ (NJ lim none (.un a b) (ev fr) H) Q:=PG rfl
theorem Oa3 {a:UnOp} {c:Operand}:oK E lim (some b) dest mask (.un a c) fr H Q=RZ (NJ lim (dest.map (b+·)) (.un a c) (ev fr) (OD b mask H)) fun v H'=>Q v (NZ b mask H H'):=OU rfl
theorem N34 {a:IntKind} {b:Operand}:oK E lim none none mask (.conv a b) fr H Q=RZ (NJ lim none (.conv a b) (ev fr) H) Q:=PG rfl
theorem N4b {a:IntKind} {c:Operand}:oK E lim (some b) dest mask (.conv a c) fr H Q=RZ (NJ lim (dest.map (b+·)) (.conv a c) (ev fr) (OD b mask H)) fun v H'=>Q v (NZ b mask H H'):=OU rfl
theorem Ny5 {a:List Value}:oK E lim none none mask (.alloc a) fr H Q=RZ (NJ lim none (.alloc a) (ev fr) H) Q:=PG rfl
theorem Nzh {a:List Value}:oK E lim (some b) dest mask (.alloc a) fr H Q=RZ (NJ lim (dest.map (b+·)) (.alloc a) (ev fr) (OD b mask H)) fun v H'=>Q v (NZ b mask H H'):=OU rfl
theorem N7z {a:Operand}:oK E lim none none mask (.box a) fr H Q=RZ (NJ lim none (.box a) (ev fr) H) Q:=PG rfl
theorem N73 {a:Operand}:oK E lim (some b) dest mask (.box a) fr H Q=RZ (NJ lim (dest.map (b+·)) (.box a) (ev fr) (OD b mask H)) fun v H'=>Q v (NZ b mask H H'):=OU rfl
theorem Ny4 {b:List Value} {a:List (Nat×Nat×Operand)}:oK E lim none none mask (.build b a) fr H Q=RZ (NJ lim none (.build b a) (ev fr) H) Q:=PG rfl
theorem Nzg {c:List Value} {a:List (Nat×Nat×Operand)}:oK E lim (some b) dest mask (.build c a) fr H Q=RZ (NJ lim (dest.map (b+·)) (.build c a) (ev fr) (OD b mask H)) fun v H'=>Q v (NZ b mask H H'):=OU rfl
theorem Ngw {c:Nat} {b:List Value} {a:List (Nat×Nat×Operand)}:oK E lim none none mask (.buildSlice c b a) fr H Q=RZ (NJ lim none (.buildSlice c b a) (ev fr) H) Q:=PG rfl
theorem Ngx {d:Nat} {c:List Value} {a:List (Nat×Nat×Operand)}:oK E lim (some b) dest mask (.buildSlice d c a) fr H Q=RZ (NJ lim (dest.map (b+·)) (.buildSlice d c a) (ev fr) (OD b mask H)) fun v H'=>Q v (NZ b mask H H'):=OU rfl
theorem Ny1 {a:Operand}:oK E lim none none mask (.load1 a) fr H Q=RZ (NJ lim none (.load1 a) (ev fr) H) Q:=PG rfl
theorem Nzd {a:Operand}:oK E lim (some b) dest mask (.load1 a) fr H Q=RZ (NJ lim (dest.map (b+·)) (.load1 a) (ev fr) (OD b mask H)) fun v H'=>Q v (NZ b mask H H'):=OU rfl
theorem Ny0 {b:Nat} {a:Operand}:oK E lim none none mask (.loadN b a) fr H Q=RZ (NJ lim none (.loadN b a) (ev fr) H) Q:=PG rfl
theorem Nza {c:Option Nat} {a:Operand}:oK E lim (some b) dest mask (.loadR c a) fr H Q=RZ (NJ lim (dest.map (b+·)) (.loadR c a) (ev fr) (OD b mask H)) fun v H'=>Q v (NZ b mask H H'):=OU rfl
theorem Nzc {c:Nat} {a:Operand}:oK E lim (some b) dest mask (.loadN c a) fr H Q=RZ (NJ lim (dest.map (b+·)) (.loadN c a) (ev fr) (OD b mask H)) fun v H'=>Q v (NZ b mask H H'):=OU rfl
theorem Nzb {d:Option Nat} {a c:Operand}:oK E lim (some b) dest mask (.loadO d a c) fr H Q=RZ (NJ lim (dest.map (b+·)) (.loadO d a c) (ev fr) (OD b mask H)) fun v H'=>Q v (NZ b mask H H'):=OU rfl
theorem Nug {d:Nat} {a e c:Operand}:oK E lim (some b) dest mask (.storeO d a e c) fr H Q=RZ (NJ lim (dest.map (b+·)) (.storeO d a e c) (ev fr) (OD b mask H)) fun v H'=>Q v (NZ b mask H H'):=OU rfl
theorem Nuh {b c:Nat} {a d:Operand}:oK E lim (some b) dest mask (.storeD c a d) fr H Q=RZ (NJ lim (dest.map (b+·)) (.storeD c a d) (ev fr) (OD b mask H)) fun v H'=>Q v (NZ b mask H H'):=OU rfl
theorem Nyz {b:Nat} {a c:Operand}:oK E lim none none mask (.store b a c) fr H Q=RZ (NJ lim none (.store b a c) (ev fr) H) Q:=PG rfl
theorem Ny9 {c:Nat} {a d:Operand}:oK E lim (some b) dest mask (.store c a d) fr H Q=RZ (NJ lim (dest.map (b+·)) (.store c a d) (ev fr) (OD b mask H)) fun v H'=>Q v (NZ b mask H H'):=OU rfl
theorem Nlm {a:Operand}:oK E lim none none mask (.nilCheck a) fr H Q=RZ (NJ lim none (.nilCheck a) (ev fr) H) Q:=PG rfl
theorem Nlw {a:Operand}:oK E lim (some b) dest mask (.nilCheck a) fr H Q=RZ (NJ lim (dest.map (b+·)) (.nilCheck a) (ev fr) (OD b mask H)) fun v H'=>Q v (NZ b mask H H'):=OU rfl
theorem Nja {a:Nat} {b:Operand}:oK E lim none none mask (.fieldAddr a b) fr H Q=RZ (NJ lim none (.fieldAddr a b) (ev fr) H) Q:=PG rfl
theorem Njf {a:Nat} {c:Operand}:oK E lim (some b) dest mask (.fieldAddr a c) fr H Q=RZ (NJ lim (dest.map (b+·)) (.fieldAddr a c) (ev fr) (OD b mask H)) fun v H'=>Q v (NZ b mask H H'):=OU rfl
theorem Nua {a:Nat} {b:Operand}:oK E lim none none mask (.field1 a b) fr H Q=RZ (NJ lim none (.field1 a b) (ev fr) H) Q:=PG rfl
theorem Nuq {a:Nat} {c:Operand}:oK E lim (some b) dest mask (.field1 a c) fr H Q=RZ (NJ lim (dest.map (b+·)) (.field1 a c) (ev fr) (OD b mask H)) fun v H'=>Q v (NZ b mask H H'):=OU rfl
theorem Nt9 {a b:Nat} {c:Operand}:oK E lim none none mask (.fieldN a b c) fr H Q=RZ (NJ lim none (.fieldN a b c) (ev fr) H) Q:=PG rfl
theorem Nup {a c:Nat} {d:Operand}:oK E lim (some b) dest mask (.fieldN a c d) fr H Q=RZ (NJ lim (dest.map (b+·)) (.fieldN a c d) (ev fr) (OD b mask H)) fun v H'=>Q v (NZ b mask H H'):=OU rfl
theorem Nlq {b a:Nat} {d c:Operand}:oK E lim none none mask (.idxAddrA b a d c) fr H Q=RZ (NJ lim none (.idxAddrA b a d c) (ev fr) H) Q:=PG rfl
theorem Nl0 {c a:Nat} {e d:Operand}:oK E lim (some b) dest mask (.idxAddrA c a e d) fr H Q=RZ (NJ lim (dest.map (b+·)) (.idxAddrA c a e d) (ev fr) (OD b mask H)) fun v H'=>Q v (NZ b mask H H'):=OU rfl
theorem N33 {c b:Nat} {a:Bool} {e d:Operand}:oK E lim none none mask (.idxA c b a e d) fr H Q=RZ (NJ lim none (.idxA c b a e d) (ev fr) H) Q:=PG rfl
theorem N4a {d c:Nat} {a:Bool} {f e:Operand}:oK E lim (some b) dest mask (.idxA d c a f e) fr H Q=RZ (NJ lim (dest.map (b+·)) (.idxA d c a f e) (ev fr) (OD b mask H)) fun v H'=>Q v (NZ b mask H H'):=OU rfl
theorem Nt8 {b a:Operand}:oK E lim none none mask (.idxStr b a) fr H Q=RZ (NJ lim none (.idxStr b a) (ev fr) H) Q:=PG rfl
theorem Nuo {c a:Operand}:oK E lim (some b) dest mask (.idxStr c a) fr H Q=RZ (NJ lim (dest.map (b+·)) (.idxStr c a) (ev fr) (OD b mask H)) fun v H'=>Q v (NZ b mask H H'):=OU rfl
theorem Nt3 {a:Nat} {e:Operand} {c b d:Option Operand}:oK E lim none none mask (.sliceS a e c b d) fr H Q=RZ (NJ lim none (.sliceS a e c b d) (ev fr) H) Q:=PG rfl
theorem Nui {a:Nat} {f:Operand} {d c e:Option Operand}:oK E lim (some b) dest mask (.sliceS a f d c e) fr H Q=RZ (NJ lim (dest.map (b+·)) (.sliceS a f d c e) (ev fr) (OD b mask H)) fun v H'=>Q v (NZ b mask H H'):=OU rfl
theorem Nll {c:Operand} {b a:Option Operand}:oK E lim none none mask (.sliceStr c b a) fr H Q=RZ (NJ lim none (.sliceStr c b a) (ev fr) H) Q:=PG rfl
theorem Nlv {d:Operand} {c a:Option Operand}:oK E lim (some b) dest mask (.sliceStr d c a) fr H Q=RZ (NJ lim (dest.map (b+·)) (.sliceStr d c a) (ev fr) (OD b mask H)) fun v H'=>Q v (NZ b mask H H'):=OU rfl
theorem Nt6 {a:Operand}:oK E lim none none mask (.lenStr a) fr H Q=RZ (NJ lim none (.lenStr a) (ev fr) H) Q:=PG rfl
theorem Nul {a:Operand}:oK E lim (some b) dest mask (.lenStr a) fr H Q=RZ (NJ lim (dest.map (b+·)) (.lenStr a) (ev fr) (OD b mask H)) fun v H'=>Q v (NZ b mask H H'):=OU rfl
theorem Nlr {a:Operand}:oK E lim none none mask (.capSlice a) fr H Q=RZ (NJ lim none (.capSlice a) (ev fr) H) Q:=PG rfl
theorem Nl1 {a:Operand}:oK E lim (some b) dest mask (.capSlice a) fr H Q=RZ (NJ lim (dest.map (b+·)) (.capSlice a) (ev fr) (OD b mask H)) fun v H'=>Q v (NZ b mask H H'):=OU rfl
theorem Nlo {a:Operand}:oK E lim none none mask (.lenSlice a) fr H Q=RZ (NJ lim none (.lenSlice a) (ev fr) H) Q:=PG rfl
theorem Nly {a:Operand}:oK E lim (some b) dest mask (.lenSlice a) fr H Q=RZ (NJ lim (dest.map (b+·)) (.lenSlice a) (ev fr) (OD b mask H)) fun v H'=>Q v (NZ b mask H H'):=OU rfl
theorem Nt7 {a:Operand}:oK E lim none none mask (.lenMap a) fr H Q=RZ (NJ lim none (.lenMap a) (ev fr) H) Q:=PG rfl
theorem Nun {a:Operand}:oK E lim (some b) dest mask (.lenMap a) fr H Q=RZ (NJ lim (dest.map (b+·)) (.lenMap a) (ev fr) (OD b mask H)) fun v H'=>Q v (NZ b mask H H'):=OU rfl
theorem N32 {a:Nat}:oK E lim none none mask (.lenK a) fr H Q=RZ (NJ lim none (.lenK a) (ev fr) H) Q:=PG rfl
theorem N39 {a:Nat}:oK E lim (some b) dest mask (.lenK a) fr H Q=RZ (NJ lim (dest.map (b+·)) (.lenK a) (ev fr) (OD b mask H)) fun v H'=>Q v (NZ b mask H H'):=OU rfl
theorem Nuc {b a:Nat} {c:Bool} {d e:Operand}:oK E lim none none mask (.append b a c d e) fr H Q=RZ (NJ lim none (.append b a c d e) (ev fr) H) Q:=PG rfl
theorem Nus {c a:Nat} {d:Bool} {e f:Operand}:oK E lim (some b) dest mask (.append c a d e f) fr H Q=RZ (NJ lim (dest.map (b+·)) (.append c a d e f) (ev fr) (OD b mask H)) fun v H'=>Q v (NZ b mask H H'):=OU rfl
theorem Npd {b a:Nat} {c:Bool} {d e:Operand}:oK E lim none none mask (.append0 b a c d e) fr H Q=RZ (NJ lim none (.append0 b a c d e) (ev fr) H) Q:=PG rfl
theorem Npm {c a:Nat} {d:Bool} {e f:Operand}:oK E lim (some b) dest mask (.append0 c a d e f) fr H Q=RZ (NJ lim (dest.map (b+·)) (.append0 c a d e f) (ev fr) (OD b mask H)) fun v H'=>Q v (NZ b mask H H'):=OU rfl
theorem Nt4 {a:Bool} {b:List Operand}:oK E lim none none mask (.minmax a b) fr H Q=RZ (NJ lim none (.minmax a b) (ev fr) H) Q:=PG rfl
theorem Nuj {a:Bool} {c:List Operand}:oK E lim (some b) dest mask (.minmax a c) fr H Q=RZ (NJ lim (dest.map (b+·)) (.minmax a c) (ev fr) (OD b mask H)) fun v H'=>Q v (NZ b mask H H'):=OU rfl
theorem Ni9 {d a:Nat} {b:List Value} {e c:Operand}:oK E lim none none mask (.makeSlice d a b e c) fr H Q=RZ (NJ lim none (.makeSlice d a b e c) (ev fr) H) Q:=PG rfl
theorem Nje {e a:Nat} {c:List Value} {f d:Operand}:oK E lim (some b) dest mask (.makeSlice e a c f d) fr H Q=RZ (NJ lim (dest.map (b+·)) (.makeSlice e a c f d) (ev fr) (OD b mask H)) fun v H'=>Q v (NZ b mask H H'):=OU rfl
theorem Npb {d a:Nat} {b:List Value} {e c:Operand}:oK E lim none none mask (.growNil d a b e c) fr H Q=RZ (NJ lim none (.growNil d a b e c) (ev fr) H) Q:=PG rfl
theorem Npk {e a:Nat} {c:List Value} {f d:Operand}:oK E lim (some b) dest mask (.growNil e a c f d) fr H Q=RZ (NJ lim (dest.map (b+·)) (.growNil e a c f d) (ev fr) (OD b mask H)) fun v H'=>Q v (NZ b mask H H'):=OU rfl
theorem Npa {a:Option Operand}:oK E lim none none mask (.makeMap a) fr H Q=RZ (NJ lim none (.makeMap a) (ev fr) H) Q:=PG rfl
theorem Npj {a:Option Operand}:oK E lim (some b) dest mask (.makeMap a) fr H Q=RZ (NJ lim (dest.map (b+·)) (.makeMap a) (ev fr) (OD b mask H)) fun v H'=>Q v (NZ b mask H H'):=OU rfl
theorem Nt5 {c:KK} {a:Value} {d:Bool} {e b:Operand}:oK E lim none none mask (.lookup c a d e b) fr H Q=RZ (NJ lim none (.lookup c a d e b) (ev fr) H) Q:=PG rfl
theorem Nuk {d:KK} {a:Value} {e:Bool} {f c:Operand}:oK E lim (some b) dest mask (.lookup d a e f c) fr H Q=RZ (NJ lim (dest.map (b+·)) (.lookup d a e f c) (ev fr) (OD b mask H)) fun v H'=>Q v (NZ b mask H H'):=OU rfl
theorem Ni8 {b:KK} {c a d:Operand}:oK E lim none none mask (.mapUpdate b c a d) fr H Q=RZ (NJ lim none (.mapUpdate b c a d) (ev fr) H) Q:=PG rfl
theorem Njd {c:KK} {d a e:Operand}:oK E lim (some b) dest mask (.mapUpdate c d a e) fr H Q=RZ (NJ lim (dest.map (b+·)) (.mapUpdate c d a e) (ev fr) (OD b mask H)) fun v H'=>Q v (NZ b mask H H'):=OU rfl
theorem Ny3 {b:List Value} {a:Operand}:oK E lim none none mask (.clear b a) fr H Q=RZ (NJ lim none (.clear b a) (ev fr) H) Q:=PG rfl
theorem Nzf {c:List Value} {a:Operand}:oK E lim (some b) dest mask (.clear c a) fr H Q=RZ (NJ lim (dest.map (b+·)) (.clear c a) (ev fr) (OD b mask H)) fun v H'=>Q v (NZ b mask H H'):=OU rfl
theorem Nub {b:KK} {c a:Operand}:oK E lim none none mask (.delete b c a) fr H Q=RZ (NJ lim none (.delete b c a) (ev fr) H) Q:=PG rfl
theorem Nur {c:KK} {d a:Operand}:oK E lim (some b) dest mask (.delete c d a) fr H Q=RZ (NJ lim (dest.map (b+·)) (.delete c d a) (ev fr) (OD b mask H)) fun v H'=>Q v (NZ b mask H H'):=OU rfl
theorem Nln {c:FuncId} {b a:List Operand}:oK E lim none none mask (.makeFunc c b a) fr H Q=RZ (NJ lim none (.makeFunc c b a) (ev fr) H) Q:=PG rfl
theorem Nlx {d:FuncId} {c a:List Operand}:oK E lim (some b) dest mask (.makeFunc d c a) fr H Q=RZ (NJ lim (dest.map (b+·)) (.makeFunc d c a) (ev fr) (OD b mask H)) fun v H'=>Q v (NZ b mask H H'):=OU rfl
theorem Npc {a:Nat} {b:Operand}:oK E lim none none mask (.extract a b) fr H Q=RZ (NJ lim none (.extract a b) (ev fr) H) Q:=PG rfl
theorem Npl {a:Nat} {c:Operand}:oK E lim (some b) dest mask (.extract a c) fr H Q=RZ (NJ lim (dest.map (b+·)) (.extract a c) (ev fr) (OD b mask H)) fun v H'=>Q v (NZ b mask H H'):=OU rfl
theorem No9 {a:Operand}:oK E lim none none mask (.rowMark a) fr H Q=RZ (NJ lim none (.rowMark a) (ev fr) H) Q:=PG rfl
theorem Npi {a:Operand}:oK E lim (some b) dest mask (.rowMark a) fr H Q=RZ (NJ lim (dest.map (b+·)) (.rowMark a) (ev fr) (OD b mask H)) fun v H'=>Q v (NZ b mask H H'):=OU rfl
theorem Nyy {a:Operand}:oK E lim none none mask (.strId a) fr H Q=RZ (NJ lim none (.strId a) (ev fr) H) Q:=PG rfl
theorem Ny8 {a:Operand}:oK E lim (some b) dest mask (.strId a) fr H Q=RZ (NJ lim (dest.map (b+·)) (.strId a) (ev fr) (OD b mask H)) fun v H'=>Q v (NZ b mask H H'):=OU rfl
end
section
variable {E:Env} {af:AFunc} {lim:Nat} {K:List AItem} {fr:Nat->Value} {H:NE} {R:Value->NE->Prop}
theorem N93 {base g o dest mask l} {d:Nat} (hd:d<af.ntmps):PV E af lim (.ops base (⟨some d,g,o,dest,mask⟩::l)::K) fr H R =
  gK af.ntmps fr g (oK E lim base dest mask o fr H fun v H'=>PV E af lim (.ops base l::K) (upd fr d v) H' R) (PV E af lim (.ops base l::K) (upd fr d undef) H R):=N7b (d:=some d) (by simp [dOk,hd])
theorem N94 {base g o dest mask l}:PV E af lim (.ops base (⟨none,g,o,dest,mask⟩::l)::K) fr H R =
  gK af.ntmps fr g (oK E lim base dest mask o fr H fun v H'=>PV E af lim (.ops base l::K) fr H' R) (PV E af lim (.ops base l::K) fr H R):=N7b (d:=none) rfl
end
section
variable {E:Env} {af:AFunc} {lim:Nat} {K:List AItem} {fr:Nat->Value} {H:NE} {R:Value->NE->Prop}
end
section
variable {p q:Prop} {c:Prop} [Decidable c]
theorem Nxv:Ug (.bool true) true p q=p:=by simp [Ug]
theorem Nxy:Ug (.bool false) false p q=p:=by simp [Ug]
theorem Nxw:Ug (.bool true) false p q=q:=by simp [Ug]
theorem Nxx:Ug (.bool false) true p q=q:=by simp [Ug]
theorem N16:Nfu (.bool true) p q=p:=rfl
theorem N17:Nfu (.bool false) p q=q:=rfl
theorem WY {b:Bool} (h1:c->Ug (.bool true) b p q) (h2:¬c->Ug (.bool false) b p q):Ug (.bool (decide c)) b p q:=by
 by_cases h:c
 ·rw [Np h];exact h1 h
 ·rw [N1 h];exact h2 h
theorem Xu (h1:c->p) (h2:¬c->q):Nfu (.bool (decide c)) p q:=by
 by_cases h:c
 ·rw [Np h];exact h1 h
 ·rw [N1 h];exact h2 h
theorem WZ {t b:Bool} (h1:t=true->Ug (.bool true) b p q) (h2:t=false->Ug (.bool false) b p q):Ug (.bool t) b p q:=by
 cases t
 ·exact h2 rfl
 ·exact h1 rfl
theorem Xv {t:Bool} (h1:t=true->p) (h2:t=false->q):Nfu (.bool t) p q:=by
 cases t
 ·exact h2 rfl
 ·exact h1 rfl
theorem N4s {a b:Int}:(a == b)=decide (a=b):=by by_cases h:a=b<;>simp [h]
theorem N4r {a b:Int}:(a != b)=decide (¬a=b):=by by_cases h:a=b<;>simp [h,bne]
theorem N4f:(!decide c)=decide (¬c):=by by_cases h:c<;>simp [h]
end
def Uh (off size:Nat) (v:Value) (c:List Value):Option (List Value):=
 if v.cells.toList.length=size/\off+size<=c.length/\NA v=true then some (QW c off v.cells.toList) else none
def Nnc (ρ:Operand->Value) (rest:List (Nat×Nat×Operand)) (r:Option (List Value)):Option (List Value):=match r with | some c=>Sc ρ rest c | none=>none
theorem Nfk {ρ:Operand->Value} {off size:Nat} {x:Operand} {rest:List (Nat×Nat×Operand)} {c:List Value}:Sc ρ ((off,size,x)::rest) c=Nnc ρ rest (Uh off size (ρ x) c):=by
 unfold Nnc Uh
 simp only [Sc]
 split<;>rfl
theorem Ngz {ρ:Operand->Value} {c:List Value}:Sc ρ [] c=some c:=rfl
theorem Nqk {ρ:Operand->Value} {rest:List (Nat×Nat×Operand)} {c:List Value}:Nnc ρ rest (some c)=Sc ρ rest c:=rfl
theorem Nnb {ρ:Operand->Value} {rest:List (Nat×Nat×Operand)} {r r':Option (List Value)} (h:r=r'):Nnc ρ rest r=Nnc ρ rest r':=by rw [h]
theorem Nna {off size:Nat} {v v':Value} {c:List Value} (h:v=v'):Uh off size v c=Uh off size v' c:=by rw [h]
attribute [congr] Nnb Nna
theorem VT {off:Nat} {v:Value} {c:List Value} (a:v.oneCell'=true) (ht:NA v=true) (h:off<c.length):Uh off 1 v c=some (c.set off v):=by
 cases v<;>first | (simp [Value.oneCell'] at a;done) | (simp [NA] at ht;done) | (unfold Uh;rw [Ni ⟨by simp [Value.cells],h,ht⟩];rfl)
theorem Nvu {off:Nat} {k:IntKind} {n:Int} {c:List Value} (h:off<c.length):Uh off 1 (.int k n) c=some (c.set off (.int k n)):=VT rfl rfl h
theorem Nqj {off:Nat} {b:Bool} {c:List Value} (h:off<c.length):Uh off 1 (.bool b) c=some (c.set off (.bool b)):=VT rfl rfl h
theorem Nvv {off n:Nat} {l c:List Value} (h:l.length=n/\off+n<=c.length):Uh off n (.agg l.toArray) c=some (QW c off l):=by
 unfold Uh
 rw [Ni ⟨by simpa [Value.cells] using h.1,h.2,rfl⟩]
 rfl
theorem Nom {c:List Value} {o:Nat}:QW c o []=c:=rfl
theorem Uy {c:List Value} {o:Nat} {v:Value} {vs:List Value}:QW c o (v::vs)=QW (c.set o v) (o+1) vs:=rfl
section
variable {fr:Nat->Value} {H:NE}
theorem Nv9 {a:Array Value}:(Value.agg a).cells=a:=rfl
theorem Nv8 {k:IntKind} {n:Int}:(Value.int k n).cells=#[.int k n]:=rfl
theorem Nq5 {b:Bool}:(Value.bool b).cells=#[.bool b]:=rfl
theorem N2r {l:List Value}:l.toArray.toList=l:=rfl
theorem N2q {l:List Value}:l.toArray.size=l.length:=rfl
def N15:Option Value->Option (List Value)->Option (List Value)
 | some v,some vs=>some (v::vs)
 | _,_=>none
def N1j:Option (List Value)->Option Value
 | some [v]=>some v
 | some vs=>some (.tuple vs.toArray)
 | none=>none
theorem Nor:UU fr H []=some []:=rfl
theorem Nk9 {r:ARes} {a:List ARes}:UU fr H (r::a)=N15 (ND fr H r) (UU fr H a):=by
 unfold N15
 simp only [UU]
 cases ND fr H r<;>cases UU fr H a<;>rfl
theorem Noq {a:List ARes}:result fr H a=N1j (UU fr H a):=by
 unfold N1j result
 cases UU fr H a<;>rfl
theorem Nq0 {v:Value} {vs:List Value}:N15 (some v) (some vs)=some (v::vs):=rfl
theorem N1h {v:Value}:N1j (some [v])=some v:=rfl
theorem Nvq {v u:Value} {vs:List Value}:N1j (some (v::u::vs))=some (.tuple (v::u::vs).toArray):=rfl
theorem N1i:N1j (some [])=some (.tuple #[]):=rfl
end
def Z6 (e:Nat) (x i:Value) (H:NE):Option (Value×NE):=match x,i with
    | .slice (some p) len _,.int _ n=>if 0<=n/\n<(len:Int) then some (.pointer (some (p.add (n.toNat*e))),H) else none
    | _,_=>none
theorem Nnz {lim:Nat} {dest:Option Nat} {e:Nat} {x i:Operand} {ρ:Operand->Value} {H:NE}:NJ lim dest (.idxAddrS e x i) ρ H=Z6 e (ρ x) (ρ i) H:=by
 simp only [NJ];unfold Z6;rfl
theorem Xo {e n len c:Nat} {p:Addr} {k:IntKind} {H:NE} (h:n<len):Z6 e (.slice (some p) len c) (.int k (n:Int)) H=some (.pointer (some (p.add (n*e))),H):=by
 unfold Z6
 simp only
 rw [Ni ⟨by omega,by omega⟩]
 simp
section
variable {E:Env} {lim b:Nat} {dest:Option Nat} {mask:List Nat} {fr:Nat->Value} {H:NE} {Q:Value->NE->Prop}
theorem Nlp {e:Nat} {x i:Operand}:oK E lim none none mask (.idxAddrS e x i) fr H Q=RZ (Z6 e (ev fr x) (ev fr i) H) Q:=by rw [PG rfl,Nnz]
theorem Nlz {e:Nat} {x i:Operand}:oK E lim (some b) dest mask (.idxAddrS e x i) fr H Q=RZ (Z6 e (ev fr x) (ev fr i) (OD b mask H)) fun v H'=>Q v (NZ b mask H H'):=by rw [OU rfl,Nnz]
end
theorem addr_add {b o n:Nat}:(⟨b,o,none⟩:Addr).add n=⟨b,o+n,none⟩:=by
 simp only [Addr.add]
 first | rfl | (split<;>simp_all)
theorem OE {n:Nat} (h:n+1<2 ^ 63):IntKind.i64.wrap ((n:Int)+1)=((n+1:Nat):Int):=by
 have h1:((n:Int)+1) % 2 ^ 64=(n:Int)+1:=Rg (by omega) (by omega)
 simp only [IntKind.wrap,IntKind.bits,IntKind.signed,h1]
 rw [Ng (by simp;omega)]
 omega
section
variable {b i:Nat} {l:List Nat} {H H0:NE}
theorem Nuy:OD b (i::l) H=OD b l (H.set (b+i) .dead):=rfl
theorem Nkq:NZ b (i::l) H0 H=NZ b l H0 (H.set (b+i) (NI H0 (b+i))):=rfl
theorem N3z:List.replicate 1 Blk.dead=[.dead]:=rfl
theorem Nyt:List.replicate 0 Blk.dead=[]:=rfl
theorem N3y:List.replicate 2 Blk.dead=[.dead,.dead]:=rfl
theorem Nt1:List.replicate 3 Blk.dead=[.dead,.dead,.dead]:=rfl
end
end Go.AM


namespace Go.AM
section
variable {α:Type}
def gt [Inhabited α] (l:List α) (i:Nat):α:=l.getD i default
theorem PS [Inhabited α] {l:List α} {i:Nat} (h:i<l.length):gt l i=l[i]:=by simp [gt,Na,Nf h]
theorem Nad [Inhabited α] {x:α} {l:List α}:gt (x::l) 0=x:=rfl
theorem UF [Inhabited α] {x:α} {l:List α} {i:Nat}:gt (x::l) (i+1)=gt l i:=by simp [gt]
theorem QH [Inhabited α] {l:List α} {i:Nat} (h:i<l.length):gt l i∈l:=by rw [PS h];exact P1 h
def addrOf (p:Option Addr):Addr:=p.getD ⟨0,0,none⟩
def Zv (p:Option Addr) (e i:Nat):Addr:=(addrOf p).add (i*e)
def Sl (H:NE) (enc:α->List Value) (e:Nat) (p:Option Addr) (l:List α):Prop:=
 match p with
 | none=>l=[]
 | some a=>a.spot=none/\(l≠[]->∃ro c,NI H a.block=.cells ro c/\a.off+l.length*e<=c.length/\(c.drop a.off).take (l.length*e)=l.flatMap enc)
theorem NM {H:NE} {i:Nat} {ro:Bool} {c:List Value} (h:NI H i=.cells ro c):i<H.length:=by
 rcases Ol i H.length with h1 | h1
 ·exact h1
 ·unfold NI at h
  rw [Na,Nx h1] at h
  cases h
def cellsOf:Blk->List Value | .cells _ c=>c | _=>[]
def isCells:Blk->Bool | .cells _ _=>true | _=>false
theorem ZL {ro:Bool} {c:List Value}:cellsOf (.cells ro c)=c:=rfl
theorem ZG {ro:Bool} {c:List Value}:isCells (.cells ro c)=true:=id rfl
theorem Sl.app {H:NE} {enc:α->List Value} {e:Nat} {p:Option Addr} {l:List α} (h:Sl H enc e p l) (X:NE):Sl (H++X) enc e p l:=by
 cases p with
 | none=>exact h
 | some a=>
   refine ⟨h.1,fun hn=>?_⟩
   obtain ⟨ro,c,h2,b⟩:=h.2 hn
   exact ⟨ro,c,by rw [NR (NM h2)];exact h2,b⟩
theorem Sl.sim {H G:NE} {enc:α->List Value} {e:Nat} {p:Option Addr} {l:List α} (h:Sl H enc e p l) (f:∀b ro c,NI H b=.cells ro c->NI G b=.cells ro c):Sl G enc e p l:=by
 cases p with
 | none=>exact h
 | some a=>
   refine ⟨h.1,fun hn=>?_⟩
   obtain ⟨ro,c,h2,d⟩:=h.2 hn
   exact ⟨ro,c,f _ _ _ h2,d⟩
theorem QT {enc:α->List Value} {e:Nat} (he:∀x,(enc x).length=e) (l:List α):(l.flatMap enc).length=l.length*e:=by
 induction l with
 | nil=>simp
 | cons x l ih=>simp [ih,he,Pv,Rn]
theorem Nbw {enc:α->List Value} {e:Nat} (he:∀x,(enc x).length=e):∀(l:List α) (i:Nat),i<l.length->[Inhabited α]->((l.flatMap enc).drop (i*e)).take e=enc (gt l i)
 | [],i,h,_=>by simp at h
 | x::l,0,_,_=>by
   rw [Oy,Qg,O0,P9 (by rw [he];exact Nd _),Oi (by rw [he];exact Nd _)]
   rfl
 | x::l,i+1,h,_=>by
   rw [Oy,List.drop_append,Qa (by rw [he,Pv];omega),Ov,he,show (i+1)*e-e=i*e by rw [Pv];omega]
   have:=Nbw he l i (by simpa using h)
   rw [this,UF]
variable [Inhabited α] {H:NE} {enc:α->List Value} {e:Nat} {p:Option Addr} {l:List α}
theorem Sl.loadCells (h:Sl H enc e p l) (he:∀x,(enc x).length=e) {i:Nat} (hi:i<l.length):AM.loadCells H (Zv p e i) e=some (enc (gt l i)):=by
 cases p with
 | none=>simp only [Sl] at h;subst h;simp at hi
 | some a=>
   obtain ⟨b,o,s⟩:=a
   obtain ⟨ro,c,h2,g,d⟩:=h.2 (by rintro rfl;simp at hi)
   have h1:=h.1
   simp only at h1 h2 d g;subst h1
   have j:i*e+e<=l.length*e:=by
    have:=O1 e (Qs hi)
    rw [Pq] at this;exact this
   have f:=Nbw he l i hi
   rw [<-d,List.drop_take,Re,List.drop_drop] at f
   simp only [Zv,addrOf,Pc,addr_add,AM.loadCells,h2]
   rw [Ni (by omega),<-f,Pt (by omega)]
theorem Sl.loadCell (h:Sl H enc e p l) (he:∀x,(enc x).length=e) {i j:Nat} (hi:i<l.length) (hj:j<e):AM.loadCell H ((Zv p e i).add j)=(enc (gt l i))[j]?:=by
 have h0:=h.loadCells he hi
 cases p with
 | none=>simp only [Sl] at h;subst h;simp at hi
 | some a=>
   obtain ⟨b,o,s⟩:=a
   obtain ⟨ro,c,h2,f,d⟩:=h.2 (by rintro rfl;simp at hi)
   have h1:=h.1
   simp only at h1 h2 d f;subst h1
   simp only [Zv,addrOf,Pc,addr_add,AM.loadCells,h2] at h0
   split at h0
   ·simp only [Option.some.injEq] at h0
    rw [<-h0]
    simp only [Zv,addrOf,Pc,addr_add,AM.loadCell,h2,P3,Q6,Ni hj,Pj]
   ·cases h0
theorem Sl.loadCell0 (h:Sl H enc e p l) (he:∀x,(enc x).length=e) {i:Nat} (hi:i<l.length) (hj:0<e):AM.loadCell H (Zv p e i)=(enc (gt l i))[0]?:=by
 rw [<-h.loadCell he hi hj]
 congr 1
omit [Inhabited α] in
theorem Sl.idx (h:Sl H enc e p l) {i c:Nat} {k:IntKind} {H1:NE} (hi:i<l.length):Z6 e (.slice p l.length c) (.int k (i:Int)) H1=some (.pointer (some (Zv p e i)),H1):=by
 cases p with
 | none=>simp only [Sl] at h;subst h;simp at hi
 | some a=>exact Xo hi
end
theorem Vv {X:NE} {j:Nat} {b:Blk} (h:j<X.length):NI (X.set j b) j=b:=by
 unfold NI;rw [Na,Rc h];rfl
theorem QV {X:NE} {i j:Nat} {b:Blk} (h:i≠j):NI (X.set j b) i=NI X i:=by
 unfold NI;rw [Na,Na,Qk (Ne.symm h)]
theorem Nvo {α:Type} [Inhabited α] {l:List α} {i:Nat} {w:α->Bool} (h:i<l.length):(l.drop i).find? w=if w (gt l i)=true then some (gt l i) else (l.drop (i+1)).find? w:=by
 rw [Ox h,List.find?_cons,PS h]
 split<;>simp_all
theorem Nve {e len c:Nat} {p:Addr} {k:IntKind} {H:NE} (h:0<len):Z6 e (.slice (some p) len c) (.int k 0) H=some (.pointer (some (p.add 0)),H):=by
 have:=Xo (e:=e) (n:=0) (len:=len) (c:=c) (p:=p) (k:=k) (H:=H) h
 rw [Qg] at this
 exact this
theorem Nva {k:IntKind} {n:Int}:U0 (.int k) (.int k n)=true:=by simp [U0]
theorem Nu9 {b:ByteArray}:U0 .str (.string b)=true:=id rfl
theorem Nj1 {k k':IntKind} {a b c d:Int} {v:Value} {es:List (Value×Value)} {i:Nat}:findKey (.agg #[.int k a,.int k' b]) ((.agg #[.int k c,.int k' d],v)::es) i=if a=c/\b=d then some (some (i,v)) else findKey (.agg #[.int k a,.int k' b]) es (i+1):=by
 simp only [findKey,Wd,UE,if_true,Nu,Bool.and_true]
 by_cases h:a=c/\b=d
 ·obtain ⟨rfl,rfl⟩:=h
  simp
 ·rw [Ng h]
  have e:((a == c)&&(b == d))=false:=by
   cases he:((a == c)&&(b == d)) with
   | false=>rfl
   | true=>
     simp only [N0,beq_iff_eq] at he
     exact absurd he h
  simp [e]
theorem Nm6 {v:Value} {i:Nat}:findKey v [] i=some none:=rfl
theorem YJ {k:IntKind} {a b:Int} {v:Value} {es:List (Value×Value)} {i:Nat}:findKey (.int k a) ((.int k b,v)::es) i=if a=b then some (some (i,v)) else findKey (.int k a) es (i+1):=by
 simp only [findKey,Wd,if_true]
 by_cases h:a=b
 ·simp [h]
 ·have e:(a == b)=false:=by simpa using h
  simp [h,e]
theorem Ul {H:NE} {r:Nat}:mapEntries H (.map (some r))=(match NI H r with | .map es=>some es | _=>none):=rfl
theorem Nc5 {H:NE}:mapEntries H (.map none)=some []:=rfl
theorem XR {α:Type} {k:IntKind} {a:Int} {f:α->Int} {g:α->Value}:∀{l:List α} {i:Nat},(∀x∈l,f x≠a)->findKey (.int k a) (l.map fun x=>(.int k (f x),g x)) i=some none
 | [],_,_=>rfl
 | x::l,i,h=>by
   rw [N2,YJ,Ng (fun e=>h x (by simp) e.symm)]
   exact XR fun y b=>h y (by simp [b])
theorem YI {α:Type} {k:IntKind} {a:Int} {f:α->Int} {g:α->Value} {v:Value}:∀{l:List α} {i:Nat},(∃x∈l,f x=a)->(∀x∈l,f x=a->g x=v)->∃j,findKey (.int k a) (l.map fun x=>(.int k (f x),g x)) i=some (some (j,v))
 | [],_,h,_=>by obtain ⟨x,c,_⟩:=h;simp at c
 | x::l,i,h,hv=>by
   rw [N2,YJ]
   by_cases e:a=f x
   ·exact ⟨i,by rw [Ni e,hv x (by simp) e.symm]⟩
   ·rw [Ng e]
    refine YI ?_ fun y hy=>hv y (by simp [hy])
    obtain ⟨y,hy,b⟩:=h
    rcases Nr.1 hy with rfl | hy
    ·exact absurd b.symm e
    ·exact ⟨y,hy,b⟩
def OH (H G:NE):Prop:=∃X,G=H++X
section
variable {H G:NE}
theorem OH.refl:OH H H:=⟨[],by simp⟩
theorem OH.app (h:OH H G) {X:NE}:OH H (G++X):=by
 obtain ⟨Y,rfl⟩:=h
 exact ⟨Y++X,by simp⟩
theorem OH.trans {K:NE} (h:OH H G) (k:OH G K):OH H K:=by
 obtain ⟨Y,rfl⟩:=k
 exact h.app
theorem OH.len (h:OH H G):H.length<=G.length:=by
 obtain ⟨Y,rfl⟩:=h
 simp
theorem OH.sl {α:Type} {enc:α->List Value} {e:Nat} {p:Option Addr} {l:List α} (h:OH H G) (hs:Sl H enc e p l):Sl G enc e p l:=by
 obtain ⟨Y,rfl⟩:=h
 exact hs.app Y
theorem OH.cells (h:OH H G) {b:Nat} {ro:Bool} {c:List Value} (hs:NI H b=.cells ro c):NI G b=.cells ro c:=by
 obtain ⟨Y,rfl⟩:=h
 rw [NR (NM hs)];exact hs
end
section
variable {E:Env} {af:AFunc} {lim:Nat} {K:List AItem} {fr:Nat->Value} {H:NE} {R:Value->NE->Prop} {b:ACode}
theorem NS {S:Type} (m:S->Nat) (I:S->(Nat->Value)->NE->Prop) (s:S) (h0:I s fr H)
  (step:∀s fr H,I s fr H->(∀a fr' H',I a fr' H'->m a<m s->PV E af lim (.inLoop b::K) fr' H' R)->PV E af lim (.code b::.inLoop b::K) fr H R) :
  PV E af lim (.code (.loop b)::K) fr H R:=by
 rw [X0,<-Uu]
 have key:∀n s fr H,m s<=n->I s fr H->PV E af lim (.inLoop b::K) fr H R:=by
  intro n
  induction n with
  | zero=>
    intro s fr H d hi
    rw [Uu]
    exact step s fr H hi fun a fr' H' _ hl=>absurd hl (by omega)
  | succ n ih=>
    intro s fr H d hi
    rw [Uu]
    exact step s fr H hi fun a fr' H' c hl=>ih a fr' H' (by omega) c
 exact key _ s fr H (Nd _) h0
theorem NK.mono {mp:Bool} {g:FuncId} {as:List Value} {Q Q':Value->NE->Prop} (h:NK E mp lim g as H Q) (a:∀v H',Q v H'->Q' v H'):NK E mp lim g as H Q':=by
 obtain ⟨n,L,h1,h2⟩:=h
 exact ⟨n,L,h1,h2.mono a⟩
theorem PV.mono {k:List AItem} {R':Value->NE->Prop} (h:PV E af lim k fr H R) (a:∀v H',R v H'->R' v H'):PV E af lim k fr H R':=by
 obtain ⟨n,L,h1,h2⟩:=h
 exact ⟨n,L,h1,h2.mono a⟩
theorem NL {k:List AItem} (h:PV E af lim k fr (H++[]) R):PV E af lim k fr H R:=by rwa [Nb] at h
theorem YV {k k':List AItem} {id:Nat} (h:RO id k=RO id k'):PV E af lim (.code (.exit id)::k) fr H R=PV E af lim (.code (.exit id)::k') fr H R:=by
 cases hk:RO id k' with
 | some K'=>rw [Ngn (h.trans hk),Ngn hk]
 | none=>
   have key:∀{k:List AItem},RO id k=none->¬PV E af lim (.code (.exit id)::k) fr H R:=by
    rintro k hk ⟨n,L,a,_⟩
    cases n with
    | zero=>simp [OY] at a
    | succ n=>rw [OY.eq_def] at a;simp only [hk] at a;cases a
   exact propext ⟨fun q=>absurd q (key (h.trans hk)),fun q=>absurd q (key hk)⟩
theorem Nhb {id:Nat} {c:ACode}:PV E af lim (.code (.exit id)::.code c::K) fr H R=PV E af lim (.code (.exit id)::K) fr H R:=YV (by simp [RO])
theorem Ng9 {id:Nat} {c:ACode}:PV E af lim (.code (.exit id)::.inLoop c::K) fr H R=PV E af lim (.code (.exit id)::K) fr H R:=YV (by simp [RO])
theorem Ngj {id a:Nat} (h:a≠id):PV E af lim (.code (.exit id)::.inBlock a::K) fr H R=PV E af lim (.code (.exit id)::K) fr H R:=YV (by simp [RO,h])
theorem Nha {id:Nat}:PV E af lim (.code (.exit id)::.inBlock id::K) fr H R=PV E af lim K fr H R:=Ngn (by simp [RO])
def N58 (r:Option NE) (f:NE->Prop) (_:Bx f:=⟨⟩):Prop:=match r with | some H'=>f H' | none=>False
theorem Nol {f:NE->Prop}:N58 (some H) f=f H:=rfl
theorem N2x:PV E af lim (.code .retM::K) fr H R=N58 (shut lim (marks K) H) fun H'=>RZ ((result fr H' af.results).map (·,H')) R:=by
 rw [Ti (r:=match shut lim (marks K) H with | some H'=>(result fr H' af.results).map (·,H') | none=>none) fun n=>by rw [OY.eq_def];simp only;cases shut lim (marks K) H<;>rfl]
 cases shut lim (marks K) H<;>rfl
theorem Nuz:marks []=[]:=rfl
theorem Npv {c:ACode}:marks (.code c::K)=marks K:=rfl
theorem Npu {c:ACode}:marks (.inLoop c::K)=marks K:=rfl
theorem Nmb {id:Nat}:marks (.inBlock id::K)=marks K:=rfl
theorem Npt {i:Nat}:marks (.mark i::K)=marks K++[i]:=rfl
theorem MK:shut lim [] H=some H:=rfl
theorem Zg {i:Nat} {l:List Nat} (h:NI H i=.dfr) (hl:lim<=i):shut lim (i::l) H=shut lim l (H.set i .dead):=by simp only [shut,h,Ni hl]
def Nqq (i:Nat) (j:Option ACode) (H:NE) (b:Blk):Option (Value×NE):=match b with | .loop x=>some (.bool j.isNone,H.set i (.loop { x with st:=if j.isNone then 0 else 2,pend:=j })) | _=>none
theorem N5b {i st N:Nat} {p:Option ACode} {g:Nat->Value} {ps:List Nat} {a b:ACode}:Nqq i none H (.loop ⟨st,p,g,N,ps,a,b⟩)=some (.bool true,H.set i (.loop ⟨0,none,g,N,ps,a,b⟩)):=rfl
theorem N1r {i st N:Nat} {p:Option ACode} {g:Nat->Value} {ps:List Nat} {a b c:ACode}:Nqq i (some c) H (.loop ⟨st,p,g,N,ps,a,b⟩)=some (.bool false,H.set i (.loop ⟨2,some c,g,N,ps,a,b⟩)):=rfl
theorem XT {i:Nat} {j:Option ACode}:endRound i j H=Nqq i j H (NI H i):=by unfold endRound Nqq;cases NI H i<;>rfl
theorem Nxe {i:Nat} (hl:lim<=i):PV E af lim (.round i::K) fr H R=RZ (Nqq i none H (NI H i)) R:=by
 rw [<-XT];exact Ti fun n=>by rw [OY.eq_def];simp only [Ni hl]
def N5p (b:Blk) (f:LoopB->Prop) (_:Bx f:=⟨⟩):Prop:=match b with | .loop x=>if x.st=0 then f x else False | _=>False
theorem Nwh {N:Nat} {p:Option ACode} {g:Nat->Value} {ps:List Nat} {a b:ACode} {f:LoopB->Prop}:N5p (.loop ⟨0,p,g,N,ps,a,b⟩) f=f ⟨0,p,g,N,ps,a,b⟩:=by simp [N5p]
theorem Nxk {i:Nat} (hl:lim<=i):PV E af lim (.begin i::K) fr H R=N5p (NI H i) fun x=>PV E af lim K fr (H.set i (.loop { x with st:=1 })) R:=by
 unfold N5p
 have a:(∀n,OY E (n+1) af lim (.begin i::K) fr H=none)->PV E af lim (.begin i::K) fr H R=False:=fun h=>by rw [Ti (r:=none) fun n=>(h n).trans rfl];rfl
 cases hb:NI H i with
 | loop x=>
   simp only
   split
   ·rename_i hs
    exact PV.succ fun n=>by rw [OY.eq_def];simp only [hb,Ni (And.intro hs hl)]
   ·rename_i hs
    exact a fun n=>by rw [OY.eq_def];simp only [hb,hs,false_and,if_false]
 | _=>exact a fun n=>by rw [OY.eq_def];simp only [hb]
theorem Nxf {k:List AItem} (h:∀n,OY E (n+1) af lim k fr H=none):PV E af lim k fr H R=False:=by rw [Ti (r:=none) fun n=>(h n).trans rfl];rfl
theorem YU {k k':List AItem} (h:roundOf k=roundOf k'):PV E af lim (.code .retR::k) fr H R=PV E af lim (.code .retR::k') fr H R:=by
 rw [Ti (r:=match roundOf k with | some i=>if lim<=i then endRound i (some .retM) H else none | none=>none) fun n=>by rw [OY.eq_def];simp only;cases roundOf k with | none=>rfl | some i=>simp only;split<;>rfl,
  Ti (k:=.code .retR::k') (r:=match roundOf k' with | some i=>if lim<=i then endRound i (some .retM) H else none | none=>none) fun n=>by rw [OY.eq_def];simp only;cases roundOf k' with | none=>rfl | some i=>simp only;split<;>rfl,h]
theorem Ng8 {c:ACode}:PV E af lim (.code .retR::.code c::K) fr H R=PV E af lim (.code .retR::K) fr H R:=YU rfl
theorem Ng7 {c:ACode}:PV E af lim (.code .retR::.inLoop c::K) fr H R=PV E af lim (.code .retR::K) fr H R:=YU rfl
theorem Ngi {id:Nat}:PV E af lim (.code .retR::.inBlock id::K) fr H R=PV E af lim (.code .retR::K) fr H R:=YU rfl
theorem Ngh {i:Nat} (hl:lim<=i):PV E af lim (.code .retR::.round i::K) fr H R=RZ (Nqq i (some .retM) H (NI H i)) R:=by
 rw [<-XT];exact Ti fun n=>by rw [OY.eq_def];simp only [roundOf,Ni hl]
theorem Ye {k k':List AItem} {id:Nat} (h:RO id k=RO id k') (h2:roundOf k=roundOf k'):PV E af lim (.code (.exitR id)::k) fr H R=PV E af lim (.code (.exitR id)::k') fr H R:=by
 cases hk:RO id k' with
 | some K'=>
   exact (PV.succ (k1:=K') (fr1:=fr) (H1:=H) fun n=>by rw [OY.eq_def];simp only [h.trans hk]).trans (PV.succ fun n=>by rw [OY.eq_def];simp only [hk]).symm
 | none=>
   rw [Ti (r:=match roundOf k with | some i=>if lim<=i then endRound i (some (.exit id)) H else none | none=>none) fun n=>by rw [OY.eq_def];simp only [h.trans hk];cases roundOf k with | none=>rfl | some i=>simp only;split<;>rfl,
    Ti (k:=.code (.exitR id)::k') (r:=match roundOf k' with | some i=>if lim<=i then endRound i (some (.exit id)) H else none | none=>none) fun n=>by rw [OY.eq_def];simp only [hk];cases roundOf k' with | none=>rfl | some i=>simp only;split<;>rfl,h2]
theorem Ngm {id:Nat} {c:ACode}:PV E af lim (.code (.exitR id)::.code c::K) fr H R=PV E af lim (.code (.exitR id)::K) fr H R:=Ye (by simp [RO]) rfl
theorem Ngk {id:Nat} {c:ACode}:PV E af lim (.code (.exitR id)::.inLoop c::K) fr H R=PV E af lim (.code (.exitR id)::K) fr H R:=Ye (by simp [RO]) rfl
theorem Ndb {id a:Nat} (h:a≠id):PV E af lim (.code (.exitR id)::.inBlock a::K) fr H R=PV E af lim (.code (.exitR id)::K) fr H R:=Ye (by simp [RO,h]) rfl
theorem Ngl {id:Nat}:PV E af lim (.code (.exitR id)::.inBlock id::K) fr H R=PV E af lim K fr H R:=PV.succ fun n=>by rw [OY.eq_def];simp [RO]
theorem Nda {id i:Nat} (hl:lim<=i):PV E af lim (.code (.exitR id)::.round i::[]) fr H R=RZ (Nqq i (some (.exit id)) H (NI H i)) R:=by
 rw [<-XT];exact Ti fun n=>by rw [OY.eq_def];simp only [RO,roundOf,Ni hl]
def Y4 (x:LoopB):List AItem:=match x.pend with | none=>[] | some c=>[.code c]
theorem No3 {st N:Nat} {g:Nat->Value} {ps:List Nat} {a b:ACode}:Y4 ⟨st,none,g,N,ps,a,b⟩=[]:=rfl
theorem No2 {st N:Nat} {g:Nat->Value} {ps:List Nat} {a b c:ACode}:Y4 ⟨st,some c,g,N,ps,a,b⟩=[.code c]:=rfl
def N8w (c:Option ((FuncId ⊕ Nat)×List Value)) (f:FuncId->List Value->Prop) (_:Bx f:=⟨⟩):Prop:=match c with | some (.inl g,as)=>f g as | _=>False
theorem Nwa {g:FuncId} {as:List Value} {f:FuncId->List Value->Prop}:N8w (some (.inl g,as)) f=f g as:=rfl
def Ym (b:Blk) (f:LoopB->Prop) (_:Bx f:=⟨⟩):Prop:=match b with | .loop x=>if x.st=1 then False else f x | _=>False
theorem N1q {N:Nat} {p:Option ACode} {g:Nat->Value} {ps:List Nat} {a b:ACode} {f:LoopB->Prop}:Ym (.loop ⟨0,p,g,N,ps,a,b⟩) f=f ⟨0,p,g,N,ps,a,b⟩:=by simp [Ym]
theorem N8k {N:Nat} {p:Option ACode} {g:Nat->Value} {ps:List Nat} {a b:ACode} {f:LoopB->Prop}:Ym (.loop ⟨2,p,g,N,ps,a,b⟩) f=f ⟨2,p,g,N,ps,a,b⟩:=by simp [Ym]
theorem Nvw {x:LoopB} {f:LoopB->Prop} (h:x.st≠1):Ym (.loop x) f=f x:=by simp [Ym,h]
theorem Nqp {b b':Blk} {f:LoopB->Prop} (h:b=b'):Ym b f=Ym b' f:=by rw [h]
theorem Nn0 {f:Operand} {ps:List Nat} {a b:ACode} {g:FuncId} {as:List Value} (hc:NC (ev fr f) [.func (.yield (H.length+1)) #[] #[]] = some (.inl g,as)) :
  PV E af lim (.code (.rangeF f ps a b)::K) fr H R=NK E false lim g as (H++[.dfr,.loop ⟨0,none,fr,af.ntmps,ps,a,b⟩]) fun _ Q=>
   Ym (NI Q (H.length+1)) fun x=>PV E af lim (Y4 x++(K++[.mark H.length])) fr (Q.set (H.length+1) .dead) R:=by
 let F:=fun (n:Nat) (r:Value×NE)=>match NI r.2 (H.length+1) with
  | .loop x=>if x.st=1 then none else OY E n af lim ((match x.pend with | none=>[] | some c=>[AItem.code c])++(K++[AItem.mark H.length])) fr (r.2.set (H.length+1) .dead)
  | _=>none
 have I:∀n r s,F n r=some s->∃x,NI r.2 (H.length+1)=.loop x/\x.st≠1/\OY E n af lim (Y4 x++(K++[.mark H.length])) fr (r.2.set (H.length+1) .dead)=some s:=fun n r s h=>by
  simp only [F] at h
  split at h
  case h_2=>cases h
  rename_i x w
  split at h
  ·cases h
  rename_i j
  exact ⟨x,w,j,h⟩
 have t:∀n r x s,NI r.2 (H.length+1)=.loop x->x.st≠1->OY E n af lim (Y4 x++(K++[.mark H.length])) fr (r.2.set (H.length+1) .dead)=some s->F n r=some s:=fun n r x s w j h=>by
  simp only [F,w,Ng j]
  exact h
 have B:∀n r s,F n r=some s->s≠[]:=fun n r s h=>by
  obtain ⟨x,_,_,h⟩:=I n r s h
  exact Zz E _ _ _ _ _ _ _ h
 have d:∀{n m r s},n<=m->F n r=some s->F m r=some s:=fun {n m r s} J h=>by
  obtain ⟨x,h1,h2,G⟩:=I n r s h
  exact t m r x s h1 h2 (VP E J G)
 have o:∀n,OY E (n+1) af lim (.code (.rangeF f ps a b)::K) fr H=match QZ E (OY E n) false lim (.inl g) as (H++[.dfr,.loop ⟨0,none,fr,af.ntmps,ps,a,b⟩]) with
   | some L=>Ua (F n) L
   | none=>none:=fun n=>by rw [OY.eq_def];simp only [hc];rfl
 apply propext
 constructor
 ·rintro ⟨n,L,k,hr⟩
  cases n with
  | zero=>simp [OY] at k
  | succ n=>
  rw [o] at k
  split at k
  case h_2=>cases k
  rename_i L0 i
  refine ⟨n,L0,i,fun hd=>?_,fun r hr'=>?_⟩
  ·obtain ⟨y,D⟩:=hr.1 hd
   exact Zx k (fun x _ s hs=>B n x s hs) D
  ·obtain ⟨s,hs,C⟩:=Vh k r hr'
   obtain ⟨x,h1,h2,G⟩:=I n r s hs
   rw [h1,Nvw h2]
   refine ⟨n,s,G,fun hd=>?_,fun q M=>hr.2 q (C q M)⟩
   obtain ⟨y,D⟩:=hr.1 hd
   obtain ⟨z,P⟩:=Zx k (fun x _ s hs=>B n x s hs) D
   subst P
   rw [Nj] at hr'
   subst hr'
   simp only [Ua,hs,Option.some.injEq,Nb] at k
   exact ⟨y,k.trans D⟩
 ·rintro ⟨n,L0,i,hd,h2⟩
  have v:∃N,∀r∈L0,∃s,F N r=some s/\Naz E.dt s R:=by
   clear hd i
   induction L0 with
   | nil=>exact ⟨0,fun r hr=>by cases hr⟩
   | cons y L0 ih=>
     obtain ⟨N,u⟩:=ih fun r hr=>h2 r (by simp [hr])
     have hk:=h2 y (by simp)
     simp only [Ym] at hk
     split at hk
     case h_2=>exact hk.elim
     rename_i x w
     split at hk
     ·exact hk.elim
     rename_i j
     obtain ⟨m,s,k,hr⟩:=hk
     refine ⟨max N m,fun r hr'=>?_⟩
     rcases Nr.1 hr' with rfl | hr'
     ·exact ⟨s,d (Po N m) (t m r x s w j k),hr⟩
     ·obtain ⟨S,T,U⟩:=u r hr'
      exact ⟨S,d (P8 N m) T,U⟩
  obtain ⟨N,u⟩:=v
  have e:QZ E (OY E (max n N)) false lim (.inl g) as (H++[.dfr,.loop ⟨0,none,fr,af.ntmps,ps,a,b⟩])=some L0:=Wn E (P8 n N) _ _ _ _ _ _ i
  obtain ⟨L,hL⟩:=Yb (f:=F (max n N)) (l:=L0) fun r hr=>by
   obtain ⟨s,hs,_⟩:=u r hr
   exact ⟨s,d (Po n N) hs⟩
  refine ⟨max n N+1,L,by rw [o,e];exact hL,fun A=>?_,fun q M=>?_⟩
  ·obtain ⟨y,rfl⟩:=hd A
   obtain ⟨s,hs,ho⟩:=u y (by simp)
   have p:=d (Po n N) hs
   simp only [Ua,p,Option.some.injEq,Nb] at hL
   obtain ⟨z,P⟩:=ho.1 A
   exact ⟨z,by rw [<-hL,P]⟩
  ·obtain ⟨r,hr,s,hs,O⟩:=Vj hL q M
   obtain ⟨S,p,ho⟩:=u r hr
   have:=d (Po n N) p
   rw [hs] at this
   cases this
   exact ho.2 q O
theorem Nrk {f:Operand} {ps:List Nat} {a b:ACode} :
  PV E af lim (.code (.rangeF f ps a b)::K) fr H R=N8w (NC (ev fr f) [.func (.yield (H.length+1)) #[] #[]]) fun g as=>NK E false lim g as (H++[.dfr,.loop ⟨0,none,fr,af.ntmps,ps,a,b⟩]) fun _ c=>
   Ym (NI c (H.length+1)) fun x=>PV E af lim (Y4 x++(K++[.mark H.length])) fr (c.set (H.length+1) .dead) R:=by
 unfold N8w
 split
 ·rename_i g as hc;exact Nn0 hc
 ·rename_i hc
  refine Nxf fun n=>?_
  rw [OY.eq_def]
  simp only
theorem WJ.det {mp:Bool} {i:Nat} {as:List Value} {Q:Value->NE->Prop} {n:Nat} {v:Value} {H':NE} (h:R4 E n mp lim (.inr i) as H=some [(v,H')]):WJ E mp lim i as H Q=Q v H':=by
 rw [<-Nip,Wu.all h,UK]
theorem WJ.mono {mp:Bool} {i:Nat} {as:List Value} {Q Q':Value->NE->Prop} (h:WJ E mp lim i as H Q) (a:∀v H',Q v H'->Q' v H'):WJ E mp lim i as H Q':=by
 obtain ⟨n,L,h1,h2⟩:=h
 exact ⟨n,L,h1,h2.mono a⟩
theorem X7 {i:Nat} {as:List Value} {Q:Value->NE->Prop} {x:LoopB} (b:NI H i=.loop x) (hl:lim<=i) (a:as.length=x.params.length) (hp:(x.params.all (·<x.N))=true) :
  WJ E false lim i as H Q=PV E ⟨x.N,[],.skip⟩ lim [.code x.assign,.begin i,.code x.body,.round i] (Tz x.fr x.params as) H Q:=by
 unfold WJ PV R4 QZ
 simp only [b,Ni (And.intro hl (And.intro a hp)),Nz,if_false]
theorem NU {c a:ACode} (h:c=a):PV E af lim (.code c::K) fr H R=PV E af lim (.code a::K) fr H R:=by rw [h]
theorem Njq {b o:Nat} {s:Option Nat}:AM.loadCell H ⟨b,o,s⟩=(match NI H b with | .cells _ c=>c[o]? | _=>none):=rfl
theorem Rz {b o n:Nat} {s:Option Nat}:AM.loadCells H ⟨b,o,s⟩ n=(match NI H b with | .cells _ c=>if o+n<=c.length then some ((c.drop o).take n) else none | _=>none):=rfl
theorem Vr {b o:Nat} {s:Option Nat} {vs:List Value}:AM.storeAt lim H ⟨b,o,s⟩ vs=(match NI H b with | .cells false c=>if lim<=b/\o+vs.length<=c.length then some (H.set b (.cells false (QW c o vs))) else none | _=>none):=rfl
theorem NK.eq {mp:Bool} {g:FuncId} {as:List Value} {Q:Value->NE->Prop} {v:Value} {H':NE} (h:NK E mp lim g as H fun v' H1=>v'=v/\H1=H'):NK E mp lim g as H Q=Q v H':=by
 obtain ⟨n,L,h1,h2⟩:=h
 rw [<-Nb4,Wu.all h1]
 have c:=N2t E h1
 obtain ⟨x,d⟩:=Q9 _ c
 have e:∀r∈L,r=(v,H'):=fun r hr=>by
  obtain ⟨a,b⟩:=h2.2 r hr
  exact Prod.ext a b
 apply propext
 constructor
 ·intro h
  have:=h.2 x d
  rw [e x d] at this
  exact this
 ·exact fun f=>⟨h2.1,fun r hr=>by rw [e r hr];exact f⟩
end
section
variable {p q:Prop} {t b:Bool}
theorem Nkk:Ug undef b p q=q:=by unfold undef Ug;rfl
theorem Ns5:Ug (.bool (!t)) b p q=Ug (.bool t) (!b) p q:=by cases t<;>cases b<;>simp [Ug]
theorem Nv2:Nfu (.bool (!t)) p q=Nfu (.bool t) q p:=by cases t<;>rfl
end
theorem NN {a b:Nat}:((a:Int)<(b:Int))=(a<b):=by simp
theorem Nmt {a b:Nat}:((a:Int)<=(b:Int))=(a<=b):=by simp
theorem Nms {a:Nat}:((0:Int)<(a:Int))=(0<a):=by simp
theorem NP {n:Int} (h1:-2 ^ 63<=n) (h2:n<2 ^ 63):IntKind.i64.wrap n=n:=by
 by_cases h:0<=n
 ·have h1:n % 2 ^ 64=n:=Rg h (by omega)
  simp only [IntKind.wrap,IntKind.bits,IntKind.signed,h1]
  rw [Ng (by simp;omega)]
 ·have h1:n % 2 ^ 64=n+2 ^ 64:=by
   rw [<-Int.add_emod_right,Rg (by omega) (by omega)]
  simp only [IntKind.wrap,IntKind.bits,IntKind.signed,h1]
  rw [Ni (by simp;omega)]
  omega
theorem Rw {n:Nat} (h:0<n) (h2:n<2 ^ 63):IntKind.i64.wrap ((n:Int)-1)=((n-1:Nat):Int):=by rw [NP (by omega) (by omega)];omega
theorem Nqe {H:NE} {b:Nat} (h:isCells (NI H b)=true):∃ro,NI H b=.cells ro (cellsOf (NI H b)):=by
 cases hb:NI H b with
 | cells ro c=>exact ⟨ro,by simp [cellsOf]⟩
 | _=>rw [hb] at h;simp [isCells] at h
theorem Sl.lit {α:Type} {H:NE} {enc:α->List Value} {e b:Nat} {l:List α} (he:∀x,(enc x).length=e) (h:isCells (NI H b)=true) (hc:cellsOf (NI H b)=l.flatMap enc):Sl H enc e (some ⟨b,0,none⟩) l:=by
 obtain ⟨ro,h1⟩:=Nqe h
 refine ⟨rfl,fun _=>⟨ro,_,h1, ?_, ?_⟩⟩
 ·rw [hc,QT he];simp
 ·rw [hc,O0,Oi (by rw [QT he];exact Nd _)]
theorem Nnn {a:Option Addr} {n c:Nat}:(Value.slice a n c).cells=#[.slice a n c]:=rfl
theorem Nv6 {a:Option Addr}:(Value.pointer a).cells=#[.pointer a]:=rfl
theorem Nv5 {s:ByteArray}:(Value.string s).cells=#[.string s]:=rfl
theorem Of4 {v:Value}:(#[v]:Array Value).toList=[v]:=rfl
theorem Oac {v:Value}:(#[v]:Array Value).size=1:=rfl
theorem Nv7 {a:Option Nat}:(Value.map a).cells=#[.map a]:=rfl
theorem cells_func {f:Fn} {a b:Array Value}:(Value.func f a b).cells=#[.func f a b]:=rfl
theorem Nm9 {off:Nat} {a:Option Addr} {n m:Nat} {c:List Value} (h:off<c.length):Uh off 1 (.slice a n m) c=some (c.set off (.slice a n m)):=VT rfl rfl h
theorem Nvs {off:Nat} {a:Option Addr} {c:List Value} (h:off<c.length):Uh off 1 (.pointer a) c=some (c.set off (.pointer a)):=VT rfl rfl h
theorem Nvr {off:Nat} {a:ByteArray} {c:List Value} (h:off<c.length):Uh off 1 (.string a) c=some (c.set off (.string a)):=VT rfl rfl h
theorem Nvt {off:Nat} {a:Option Nat} {c:List Value} (h:off<c.length):Uh off 1 (.map a) c=some (c.set off (.map a)):=VT rfl rfl h
theorem Oaw:List.replicate 4 Blk.dead=[.dead,.dead,.dead,.dead]:=rfl
theorem Oav:List.replicate 5 Blk.dead=[.dead,.dead,.dead,.dead,.dead]:=rfl
theorem Oau:List.replicate 6 Blk.dead=[.dead,.dead,.dead,.dead,.dead,.dead]:=rfl
theorem Oat:List.replicate 7 Blk.dead=[.dead,.dead,.dead,.dead,.dead,.dead,.dead]:=rfl
theorem Oas:List.replicate 8 Blk.dead=[.dead,.dead,.dead,.dead,.dead,.dead,.dead,.dead]:=rfl
theorem Oar:List.replicate 9 Blk.dead=[.dead,.dead,.dead,.dead,.dead,.dead,.dead,.dead,.dead]:=rfl
theorem N7w:List.replicate 10 Blk.dead=[.dead,.dead,.dead,.dead,.dead,.dead,.dead,.dead,.dead,.dead]:=rfl
theorem N7v:List.replicate 11 Blk.dead=[.dead,.dead,.dead,.dead,.dead,.dead,.dead,.dead,.dead,.dead,.dead]:=rfl
theorem N7u:List.replicate 12 Blk.dead=[.dead,.dead,.dead,.dead,.dead,.dead,.dead,.dead,.dead,.dead,.dead,.dead]:=rfl
theorem Nnp:bytesOf []=some []:=rfl
theorem Nj9 {n:Int} {l:List Value}:bytesOf (.int .u8 n::l)=(bytesOf l).map (UInt8.ofNat n.toNat::·):=by
 simp only [bytesOf];cases bytesOf l<;>rfl
theorem Nmu {a b:Nat}:((a:Int)=(b:Int))=(a=b):=propext Int.ofNat_inj
theorem Nk4 {v:Value} {c vs:List Value}:∀{o:Nat},QW (v::c) (o+1) vs=v::QW c o vs:=by
 induction vs generalizing c with
 | nil=>intro o;rfl
 | cons u vs ih=>intro o;rw [Uy,Uy,Qu];exact ih
theorem NH {l:List Value} {n:Nat} (h:l.length=n):l.take n=l:=by subst h;exact Oh
theorem Nl4 {n:Nat}:((n:Int)<0)=False:=by simp
theorem NF {c vs:List Value} (h:vs.length=c.length):QW c 0 vs=vs:=by
 have key:∀(vs c pre:List Value),vs.length=c.length->QW (pre++c) pre.length vs=pre++vs:=by
  intro vs
  induction vs with
  | nil=>intro c pre h;have:c=[]:=List.length_eq_zero_iff.1 h.symm;subst this;rfl
  | cons v vs ih=>
    intro c pre h
    match c,h with
    | x::c,h=>
      rw [Uy]
      have e1:(pre++x::c).set pre.length v=(pre++[v])++c:=by simp
      rw [e1]
      have:=ih c (pre++[v]) (by simpa using h)
      rw [Nn] at this
      simp only [Nl,Ns,Oc] at this
      rw [this];simp
 exact key vs c [] h
def N9u (v:Value) (H:NE):Option (Value×NE):=match v with
 | .slice none n _=>if n=0 then some (.string .empty,H) else none
 | .slice (some a) n _=>match loadCells H a n with
   | some cs=>match bytesOf cs with
     | some b=>some (.string ⟨b.toArray⟩,H)
     | none=>none
   | none=>none
 | _=>none
theorem Nwj {a:Addr} {n c:Nat} {H:NE}:N9u (.slice (some a) n c) H=(match AM.loadCells H a n with
  | some cs=>match bytesOf cs with
    | some b=>some (.string ⟨b.toArray⟩,H)
    | none=>none
  | none=>none):=rfl
theorem N35 {E:Env} {lim:Nat} {mask:List Nat} {fr:Nat->Value} {H:NE} {Q:Value->NE->Prop} {a:Operand}:oK E lim none none mask (.b2s a) fr H Q=RZ (N9u (ev fr a) H) Q:=PG rfl
theorem N4c {E:Env} {lim b:Nat} {dest:Option Nat} {mask:List Nat} {fr:Nat->Value} {H:NE} {Q:Value->NE->Prop} {a:Operand}:oK E lim (some b) dest mask (.b2s a) fr H Q=RZ (N9u (ev fr a) (OD b mask H)) fun v H'=>Q v (NZ b mask H H'):=OU rfl
def unV:Operand->Value
 | .const v=>v
 | _=>undef
def VW (e:Nat) (v:Value) (lo hi mx:Option Value):Option Value:=Un e unV v (lo.map .const) (hi.map .const) (mx.map .const)
theorem Nwq {e:Nat} {ρ:Operand->Value} {v:Value} {lo hi mx:Option Operand}:Un e ρ v lo hi mx=VW e v (lo.map ρ) (hi.map ρ) (mx.map ρ):=by
 unfold VW Un
 cases v with
 | slice a n c=>cases lo<;>cases hi<;>cases mx<;>rfl
 | _=>rfl
def copyV (lim esz:Nat) (d x:Value) (H:NE):Option (Value×NE):=match d,lenOf x with
    | .slice base b _,some sl=>match U2 H esz (min sl b) x with
      | some cs=>match base with
        | some a=>if min sl b=0 then some (.int .i64 0,H) else (storeAt lim H a cs).map (.int .i64 (min sl b:Nat),·)
        | none=>if b=0 then some (.int .i64 0,H) else none
      | none=>none
    | _,_=>none
theorem Ny2 {E:Env} {lim e:Nat} {mask:List Nat} {fr:Nat->Value} {H:NE} {Q:Value->NE->Prop} {d x:Operand}:oK E lim none none mask (.copy e d x) fr H Q=RZ (copyV lim e (ev fr d) (ev fr x) H) Q:=PG rfl
theorem Nze {E:Env} {lim b e:Nat} {dest:Option Nat} {mask:List Nat} {fr:Nat->Value} {H:NE} {Q:Value->NE->Prop} {d x:Operand}:oK E lim (some b) dest mask (.copy e d x) fr H Q=RZ (copyV lim e (ev fr d) (ev fr x) (OD b mask H)) fun v H'=>Q v (NZ b mask H H'):=OU rfl
def XF (n e:Nat) (v:Value) (lo hi mx:Option Value):Option Value:=match v with
 | .pointer (some a)=>match bounds unV n n (lo.map .const) (hi.map .const) (mx.map .const) with
   | some (l,h,m)=>if m<2 ^ 62 then some (.slice (some (if m=l then a else a.add (l*e))) (h-l) (m-l)) else none
   | none=>none
 | _=>none
theorem Nk0 {lim n e:Nat} {dest:Option Nat} {ρ:Operand->Value} {x:Operand} {lo hi mx:Option Operand} {H:NE}:NJ lim dest (.sliceA n e x lo hi mx) ρ H=(XF n e (ρ x) (lo.map ρ) (hi.map ρ) (mx.map ρ)).map (·,H):=by
 have b:bounds unV n n ((lo.map ρ).map .const) ((hi.map ρ).map .const) ((mx.map ρ).map .const)=bounds ρ n n lo hi mx:=by
  cases lo<;>cases hi<;>cases mx<;>rfl
 simp only [NJ,XF,b]
 cases ρ x with
 | pointer a=>
   cases a with
   | none=>rfl
   | some a=>
     simp only
     cases bounds ρ n n lo hi mx with
     | none=>rfl
     | some p=>
       obtain ⟨l,h,m⟩:=p
       simp only
       split<;>rfl
 | _=>rfl
theorem No8 {E:Env} {lim n e:Nat} {mask:List Nat} {fr:Nat->Value} {H:NE} {Q:Value->NE->Prop} {x:Operand} {lo hi mx:Option Operand}:oK E lim none none mask (.sliceA n e x lo hi mx) fr H Q=RZ ((XF n e (ev fr x) (lo.map (ev fr)) (hi.map (ev fr)) (mx.map (ev fr))).map (·,H)) Q:=by
 rw [PG rfl,Nk0]
theorem Nph {E:Env} {lim b n e:Nat} {dest:Option Nat} {mask:List Nat} {fr:Nat->Value} {H:NE} {Q:Value->NE->Prop} {x:Operand} {lo hi mx:Option Operand}:oK E lim (some b) dest mask (.sliceA n e x lo hi mx) fr H Q=RZ ((XF n e (ev fr x) (lo.map (ev fr)) (hi.map (ev fr)) (mx.map (ev fr))).map (·,OD b mask H)) fun v H'=>Q v (NZ b mask H H'):=by
 rw [OU rfl,Nk0]
def Nav (lim:Nat) (dest:Option Nat) (esz bytes:Nat) (str:Bool) (s x:Value) (H:NE):Option (Value×NE):=match s with
    | .slice none n c=>PQ lim dest esz bytes str (.slice none n c) x H
    | .slice (some a) n c=>if c=loose esz\/c=n then PQ lim dest esz bytes str (.slice (some a) n c) x H else none
    | _=>none
theorem Nls {E:Env} {lim e b:Nat} {str:Bool} {mask:List Nat} {fr:Nat->Value} {H:NE} {Q:Value->NE->Prop} {s x:Operand}:oK E lim none none mask (.appendL e b str s x) fr H Q=RZ (Nav lim none e b str (ev fr s) (ev fr x) H) Q:=PG rfl
theorem Nl2 {E:Env} {lim e b' b:Nat} {str:Bool} {dest:Option Nat} {mask:List Nat} {fr:Nat->Value} {H:NE} {Q:Value->NE->Prop} {s x:Operand}:oK E lim (some b) dest mask (.appendL e b' str s x) fr H Q=RZ (Nav lim (dest.map (b+·)) e b' str (ev fr s) (ev fr x) (OD b mask H)) fun v H'=>Q v (NZ b mask H H'):=OU rfl
theorem Ng4 {lim e b n c:Nat} {str:Bool} {dest:Option Nat} {x:Value} {H:NE}:Nav lim dest e b str (.slice none n c) x H=PQ lim dest e b str (.slice none n c) x H:=rfl
theorem Ng3 {lim e b n c:Nat} {str:Bool} {dest:Option Nat} {x:Value} {H:NE} {a:Addr}:Nav lim dest e b str (.slice (some a) n c) x H=if c=loose e\/c=n then PQ lim dest e b str (.slice (some a) n c) x H else none:=rfl
section
variable {α:Type}
def DH (enc:α->List Value) (G:NE) (B:Nat) (d:Array α):NE:=G.set B (.cells false (d.toList.flatMap enc))
variable [Inhabited α] {enc:α->List Value} {G X:NE} {B e i:Nat} {d:Array α} {p:Option Addr} {lim:Nat}
omit [Inhabited α] in
theorem V8:(DH enc G B d).length=G.length:=by simp [DH]
omit [Inhabited α] in
theorem Nb3 (hB:B<G.length):NI (DH enc G B d++X) B=.cells false (d.toList.flatMap enc):=by
 rw [NR (by rw [V8];exact hB)]
 exact Vv hB
omit [Inhabited α] in
theorem Ns2 (hp:p=some ⟨B,0,none⟩) (hB:B<G.length) (he:∀x,(enc x).length=e):Sl (DH enc G B d++X) enc e p d.toList:=by
 subst hp
 refine Sl.lit he ?_ ?_
 ·rw [Nb3 hB];rfl
 ·rw [Nb3 hB];rfl
theorem N8h {α:Type} [Inhabited α] (d:Array α) (i:Nat):gt d.toList i=d[i]!:=by
 unfold gt
 rw [Na,Array.getElem?_toList,getElem!_def]
 cases d[i]?<;>rfl
theorem Zb (hp:p=some ⟨B,0,none⟩) (hB:B<G.length) (he:∀x,(enc x).length=e) (hi:i<d.size):AM.loadCells (DH enc G B d++X) (Zv p e i) e=some (enc d[i]!):=by
 rw [(Ns2 hp hB he).loadCells he (by simpa using hi),N8h]
omit [Inhabited α] in
theorem Nm4 (he:∀x,(enc x).length=e) (y:α):∀(l:List α) (i:Nat),i<l.length->QW (l.flatMap enc) (i*e) (enc y)=(l.set i y).flatMap enc:=by
 have key:∀(vs a b c:List Value) ,vs.length=b.length->QW (a++b++c) a.length vs=a++vs++c:=by
  intro vs
  induction vs with
  | nil=>intro a b c h;simp at h;have:b=[]:=List.length_eq_zero_iff.1 h.symm;subst this;rfl
  | cons v vs ih=>
    intro a b c h
    match b,h with
    | x::b,h=>
      rw [Uy]
      have e1:(a++x::b++c).set a.length v=(a++[v])++b++c:=by simp
      rw [e1]
      have:=ih (a++[v]) b c (by simpa using h)
      rw [Nn] at this
      simp only [Nl,Ns,Oc] at this
      rw [this];simp
 intro l i hi
 have e1:l.flatMap enc=(l.take i).flatMap enc++enc l[i]++(l.drop (i+1)).flatMap enc:=by
  have e0:l=l.take i++l[i]::l.drop (i+1):=by rw [<-Ox hi,Qc]
  have:=Qo (List.flatMap enc) e0
  rw [P2,Oy] at this
  rw [this,Nq]
 have e2:(l.set i y).flatMap enc=(l.take i).flatMap enc++enc y++(l.drop (i+1)).flatMap enc:=by
  rw [List.set_eq_take_append_cons_drop,Ni hi];simp
 have e3:i*e=((l.take i).flatMap enc).length:=by rw [QT he,Om,Pt (by omega)]
 rw [e1,e2,e3]
 exact key _ _ _ _ (by rw [he,he])
omit [Inhabited α] in
theorem Yl (hp:p=some ⟨B,0,none⟩) (hB:B<G.length) (hl:lim<=B) (he:∀x,(enc x).length=e) (hi:i<d.size) {y:α}:AM.storeAt lim (DH enc G B d++X) (Zv p e i) (enc y)=some (DH enc G B (d.setIfInBounds i y)++X):=by
 subst hp
 have h1:i*e+e<=d.size*e:=by
  have:=O1 e (Qs hi)
  rw [Pq] at this;exact this
 simp only [Zv,addrOf,Pc,addr_add,Vr,Nb3 hB,Oc]
 rw [Ni ⟨hl,by rw [he,QT he];simpa using h1⟩,Nm4 he y _ _ (by simpa using hi)]
 congr 1
 rw [Qi _ _ (by rw [V8];exact hB)]
 simp only [DH,List.set_set]
 congr 3
 simp
omit [Inhabited α] in
theorem Ws {n c:Nat} {k:IntKind} {H:NE} (hp:p=some ⟨B,0,none⟩) (hi:i<n):Z6 e (.slice p n c) (.int k (i:Int)) H=some (.pointer (some (Zv p e i)),H):=by
 subst hp
 exact Xo hi
end
def SB:=And.intro @ne_eq.{1} (And.intro @if_true.{1} (And.intro @if_false.{1} (And.intro @dite_true.{1} (And.intro @dite_false.{1} (And.intro @N5x (And.intro @Nxv (And.intro @Nxy (And.intro @Nxw (And.intro @Nxx (And.intro @N16 (And.intro @N17 (And.intro @N4s (And.intro @N4r (And.intro @N4f (And.intro @Nfk (And.intro @Ngz (And.intro @Nqk (And.intro @Nvu (And.intro @Nqj (And.intro @Nvv (And.intro @Nom (And.intro @Uy (And.intro @N2y (And.intro @Nhb (And.intro @Ng9 (And.intro @Ngj (And.intro @Nha (And.intro @N2w (And.intro @Nxj (And.intro @Nn2 (And.intro @N2z (And.intro @N93 (And.intro @N94 (And.intro @false_and (And.intro @and_false (And.intro @Nn1 (And.intro @N5y (And.intro @decide_true (And.intro @N42 (And.intro @N41 (And.intro @N7x (And.intro @N31 (And.intro @N70 (And.intro @N7y (And.intro @Oa0 (And.intro @N34 (And.intro @Ny5 (And.intro @N7z (And.intro @Ny4 (And.intro @Ngw (And.intro @Ny1 (And.intro @Ny0 (And.intro @Nyz (And.intro @Nlm (And.intro @Nja (And.intro @Nua (And.intro @Nt9 (And.intro @Nlq (And.intro @Nlp (And.intro @N33 (And.intro @Nt8 (And.intro @Nt3 (And.intro @Nll (And.intro @Nt6 (And.intro @Nlo (And.intro @Nt7 (And.intro @N32 (And.intro @Nuc (And.intro @Npd (And.intro @Nt4 (And.intro @Ni9 (And.intro @Npa (And.intro @Nt5 (And.intro @Ni8 (And.intro @Nub (And.intro @Ny3 (And.intro @Nln (And.intro @Npc (And.intro @Nyy (And.intro @No9 (And.intro @N71 (And.intro @N38 (And.intro @N74 (And.intro @N72 (And.intro @Oa3 (And.intro @N4b (And.intro @Nzh (And.intro @N73 (And.intro @Nzg (And.intro @Ngx (And.intro @Nzd (And.intro @Nzc (And.intro @Nza (And.intro @Nzb (And.intro @Nug (And.intro @Ny9 (And.intro @Nuh (And.intro @Nlw (And.intro @Njf (And.intro @Nuq (And.intro @Nup (And.intro @Nl0 (And.intro @Nlz (And.intro @N4a (And.intro @Nuo (And.intro @Nui (And.intro @Nlv (And.intro @Nul (And.intro @Nly (And.intro @Nun (And.intro @N39 (And.intro @Nus (And.intro @Npm (And.intro @Nuj (And.intro @Nje (And.intro @Npj (And.intro @Nuk (And.intro @Njd (And.intro @Nur (And.intro @Nzf (And.intro @Nlx (And.intro @Npl (And.intro @Ny8 (And.intro @Npi (And.intro @N4e (And.intro @Nzm (And.intro @Nzk (And.intro @Nzi (And.intro @Nzj (And.intro @N4d (And.intro @Nzl (And.intro @Nlr (And.intro @Nl1 (And.intro @Npb (And.intro @Npk (And.intro @Nwb (And.intro @Nlf (And.intro @N1f (And.intro @Nvj (And.intro @N43 (And.intro @Np0 (And.intro @Npz (And.intro @Nqa (And.intro @Njw (And.intro @Nqb (And.intro @Ntt (And.intro @N3u (And.intro @N4l (And.intro @Nz5 (And.intro @N8d (And.intro @Nb4 (And.intro @Nip (And.intro @N2x (And.intro @Nuz (And.intro @Npv (And.intro @Npu (And.intro @Nmb (And.intro @Npt (And.intro @MK (And.intro @Zg (And.intro @Nol (And.intro @Nxe (And.intro @Nxk (And.intro @Nwh (And.intro @N5b (And.intro @N1r (And.intro @Ng8 (And.intro @Ng7 (And.intro @Ngi (And.intro @Ngh (And.intro @Ngm (And.intro @Ngk (And.intro @Ndb (And.intro @Ngl (And.intro @Nda (And.intro @Nwa (And.intro @N1q (And.intro @N8k (And.intro @No3 (And.intro @No2 (And.intro @Nrk (And.intro @List.map_cons.{0,0} (And.intro @List.map_nil.{0,0} (And.intro @Option.map_none.{0,0} (And.intro @Nz0 (And.intro @Nuy (And.intro @Nkq (And.intro @N3z (And.intro @Nyt (And.intro @N3y (And.intro @Nt1 (And.intro @Nxg (And.intro @Pj (And.intro @Nn8 (And.intro @Tj (And.intro @N8j (And.intro @N1k (And.intro @N44 (And.intro @upd_same (And.intro @upd_ne (And.intro @not_false_eq_true (And.intro @Nyx (And.intro @Option.map_some.{0,0} (And.intro @List.getD_cons_zero.{0} (And.intro @List.getD_cons_succ.{0} (And.intro @decide_false (And.intro @Nz (And.intro @not_true_eq_false (And.intro @and_true (And.intro @Rj (And.intro @OC (And.intro @NV (And.intro @NR (And.intro @Niy (And.intro @Nk3 (And.intro @List.set_cons_zero.{0} (And.intro @List.set_cons_succ.{0} (And.intro @List.append_assoc.{0} (And.intro @List.cons_append.{0} (And.intro @List.nil_append.{0} (And.intro @Vr (And.intro @Njq (And.intro @Rz (And.intro @Xo (And.intro @List.length_cons.{0} (And.intro @List.length_nil.{0} (And.intro @addr_add (And.intro @List.drop_zero.{0} (And.intro @List.drop_succ_cons.{0} (And.intro @List.take_succ_cons.{0} (And.intro @List.take_zero.{0} (And.intro @Nd (And.intro @Nat.le_add_right (And.intro @Oc (And.intro @O9 (And.intro @Noq (And.intro @Nor (And.intro @Nk9 (And.intro @Nq0 (And.intro @N1h (And.intro @Nvq (And.intro @N1i (And.intro @Nv9 (And.intro @Nv8 (And.intro @Nq5 (And.intro @N2r (And.intro @N2q (And.intro @Option.some.injEq.{0} (And.intro @Prod.mk.injEq.{0,0} (And.intro @List.length_append.{0} (And.intro @List.getElem?_cons_zero.{0} (And.intro @List.getElem?_cons_succ.{0} (And.intro @Rl (And.intro @and_self (And.intro @NN (And.intro @Nmt (And.intro @Ns5 (And.intro @Nv2 (And.intro @Rd (And.intro @Bool.not_false (And.intro @Nat.le_add_right_of_le (And.intro @Nms (And.intro @Nkk (And.intro @Nva (And.intro @Nu9 (And.intro @Nm6 (And.intro @YJ (And.intro @Ul (And.intro @Nc5 (And.intro @Qq (And.intro @Nve (And.intro @N5z (And.intro @Nnn (And.intro @Nv6 (And.intro @Nv5 (And.intro @Nv7 (And.intro @cells_func (And.intro @Of4 (And.intro @Oac (And.intro @Nm9 (And.intro @Nvs (And.intro @Nvr (And.intro @Nvt (And.intro @Nl4 (And.intro @NF (And.intro @Option.isNone_none.{0} (And.intro @Option.isNone_some.{0} (And.intro @Oa (And.intro @NH (And.intro @Nk4 (And.intro @Oaw (And.intro @Oav (And.intro @Oau (And.intro @Oat (And.intro @Oas (And.intro @Oar (And.intro @N7w (And.intro @N7v (And.intro @N7u (And.intro @Nj9 (And.intro @Nnp (And.intro @Nmu (And.intro @N35 (And.intro @N4c (And.intro @Nwj (And.intro @Nwq (And.intro @Ny2 (And.intro @Nze (And.intro @No8 (And.intro @Nph (And.intro @Nls (And.intro @Nl2 (And.intro @Ng4 (@Ng3))))))))))))))))))))))))))))))))))))))))))))))))))))))))))))))))))))))))))))))))))))))))))))))))))))))))))))))))))))))))))))))))))))))))))))))))))))))))))))))))))))))))))))))))))))))))))))))))))))))))))))))))))))))))))))))))))))))))))))))))))))))))))))))))))))))))))))))))))))))))))))))))))))))))))))))))))))))))))
theorem Nvk {args:List Value} {t:Nat}:NB args t=args.getD t undef:=id rfl
def FB:=And.intro @upd_same (And.intro @upd_ne (And.intro @ne_eq.{1} (And.intro @not_false_eq_true (And.intro @Nvk (And.intro @List.getD_cons_zero.{0} @List.getD_cons_succ.{0})))))
end Go.AM


