/-
  Joined texts, 3 of 8. A part of the claim that the last text states.
-/
import Derived.Laws.IdiomRangeMap
import Derived.Below
import Derived.Test.YtancgcogjokfcaaGreatDoorPB2
set_option linter.unusedVariables false
set_option linter.unusedSimpArgs false
set_option linter.defProp false
set_option linter.unusedSectionVars false
set_option maxRecDepth 100000
set_option maxHeartbeats 4000000
namespace Go.AM
def CLe (C a:TH):Prop:=∀mp lim g as H r,C mp lim g as H=some r->a mp lim g as H=some r
theorem ZG {C c:TH} (h:CLe C c) {lim:Nat} {dest:Option Nat} {o:AOp} {ρ:Operand->Value} {H:NB} {r} (a:Rj C lim dest o ρ H=some r):Rj c lim dest o ρ H=some r:=by
 by_cases hc:∃mp f args,o=.call mp f args
 ·obtain ⟨mp,f,args,rfl⟩:=hc
  simp only [Rj] at a⊢
  split at a
  ·exact Nms (fun p hp=>h _ _ _ _ _ _ hp) a
  ·cases a
 ·have b:∀mp f args,o≠.call mp f args:=fun mp f args e=>hc ⟨mp,f,args,e⟩
  rw [NY b] at a⊢
  exact a
theorem Yh {C c:TH} (h:CLe C c) {N lim:Nat} {base:Option Nat} {i:AIns} {fr:Nat->Value} {H:NB} {r} (a:Tv C N lim base i fr H=some r):Tv c N lim base i fr H=some r:=by
 unfold Tv at a⊢
 cases hv:SL C N lim base i fr H with
 | none=>rw [hv] at a;cases a
 | some p=>
   have:SL c N lim base i fr H=some p:=by
    unfold SL at hv⊢
    cases hw:RF N fr i.guard with
    | none=>rw [hw] at hv;cases hv
    | some b=>
      rw [hw] at hv
      cases b with
      | false=>exact hv
      | true=>
        cases base with
        | none=>exact ZG h hv
        | some b=>
          simp only at hv⊢
          cases hs:Rj C lim (i.dest.map (b+·)) i.op (ev fr) (NN b i.mask H) with
          | none=>rw [hs] at hv;cases hv
          | some q=>rw [hs] at hv;rw [ZG h hs];exact hv
   rw [hv] at a
   rw [this]
   exact a
theorem Xt {α β:Type} {f:α->Option β}:∀{l:List α} {r:List β},YM f l=some r->∀y∈r,∃x∈l,f x=some y
 | [],r,h,y,hy=>by cases h;cases hy
 | x::l,r,h,y,hy=>by
   simp only [YM] at h
   split at h
   ·rename_i a b c hb
    cases h
    rcases Nh.1 hy with rfl | hy
    ·exact ⟨x,by simp,c⟩
    ·obtain ⟨z,d,e⟩:=Xt hb y hy
     exact ⟨z,by simp [d],e⟩
   ·cases h
theorem WV {α β:Type} {f:α->Option β}:∀{l:List α} {r:List β},YM f l=some r->∀x∈l,∃y∈r,f x=some y
 | [],r,h,x,hx=>by cases hx
 | z::l,r,h,x,hx=>by
   simp only [YM] at h
   split at h
   ·rename_i a b c hb
    cases h
    rcases Nh.1 hx with rfl | hx
    ·exact ⟨a,by simp,c⟩
    ·obtain ⟨y,d,e⟩:=WV hb x hx
     exact ⟨y,by simp [d],e⟩
   ·cases h
theorem U0 {α β:Type} {f:α->Option (List β)}:∀{l:List α} {r:List β},TG f l=some r->∀x∈l,∃s,f x=some s/\∀y∈s,y∈r
 | [],r,h,x,hx=>by cases hx
 | z::l,r,h,x,hx=>by
   simp only [TG] at h
   split at h
   ·rename_i a b d hb
    cases h
    rcases Nh.1 hx with rfl | hx
    ·exact ⟨a,d,fun y c=>by simp [c]⟩
    ·obtain ⟨s,g,e⟩:=U0 hb x hx
     exact ⟨s,g,fun y c=>by simp [e y c]⟩
   ·cases h
theorem U1 {α β:Type} {f:α->Option (List β)}:∀{l:List α} {r:List β},TG f l=some r->∀y∈r,∃x∈l,∃s,f x=some s/\y∈s
 | [],r,h,y,hy=>by cases h;cases hy
 | z::l,r,h,y,hy=>by
   simp only [TG] at h
   split at h
   ·rename_i a b c hb
    cases h
    rcases Ob.1 hy with hy | hy
    ·exact ⟨z,by simp,a,c,hy⟩
    ·obtain ⟨x,g,s,e,d⟩:=U1 hb y hy
     exact ⟨x,by simp [g],s,e,d⟩
   ·cases h
theorem Wp {α β:Type} {f g:α->Option (List β)}:∀{l:List α} {r:List β},(∀x∈l,∀s,f x=some s->g x=some s)->TG f l=some r->TG g l=some r
 | [],r,_,h=>h
 | z::l,r,hfg,h=>by
   simp only [TG] at h⊢
   split at h
   ·rename_i a b c hb
    rw [hfg z (by simp) a c,Wp (fun x d=>hfg x (by simp [d])) hb]
    exact h
   ·cases h
theorem UD {α:Type} {r:Option α} {L:List α} (h:one r=some L):∃x,r=some x/\L=[x]:=by
 cases r with
 | none=>cases h
 | some x=>cases h;exact ⟨x,rfl,rfl⟩
theorem SA {α:Type} {r:Option (List α)} {x:α} (h:oneOf r=some x):r=some [x]:=by
 unfold oneOf at h
 split at h
 ·cases h;rfl
 ·cases h
def Nhh (C a:Tf):Prop:=∀mp lim g as H r,C mp lim g as H=some r->a mp lim g as H=some r
theorem Nhh.det {C a:Tf} (h:Nhh C a):CLe (det C) (det a):=fun mp lim g as H r b=>by
 unfold AM.det at b⊢
 rw [h _ _ _ _ _ _ (SA b)]
 rfl
theorem Nhq {C b:Tf} (h:Nhh C b) {lim:Nat} {o:AOp} {ρ:Operand->Value} {H:NB} {r} (a:WI C lim o ρ H=some r):WI b lim o ρ H=some r:=by
 by_cases hc:∃mp f args,o=.call mp f args
 ·obtain ⟨mp,f,args,rfl⟩:=hc
  simp only [WI] at a⊢
  split at a
  ·split at a
   ·rename_i L c
    rw [h _ _ _ _ _ _ c]
    exact a
   ·cases a
  ·cases a
 ·cases o<;>first | exact a | exact absurd ⟨_,_,_,rfl⟩ hc
theorem Nho {C b:Tf} (h:Nhh C b) {lim:Nat} {i:AIns} {ρ:Operand->Value} {H:NB} {r} (a:Ug C lim i ρ H=some r):Ug b lim i ρ H=some r:=by
 obtain ⟨d,g,o,c,m⟩:=i
 unfold Ug at a⊢
 cases c with
 | none=>exact Nhq h a
 | some k=>exact a
theorem Z0 {C c:Tf} (h:Nhh C c) {N lim:Nat} {i:AIns} {fr:Nat->Value} {H:NB} {r} (a:Yg C N lim i fr H=some r):Yg c N lim i fr H=some r:=by
 unfold Yg at a⊢
 cases hw:RF N fr i.guard with
 | none=>rw [hw] at a;cases a
 | some b=>
   rw [hw] at a
   cases b with
   | false=>exact a
   | true=>
     simp only at a⊢
     split at a
     ·rename_i L d
      rw [Nho h d]
      exact a
     ·cases a
theorem VA {E:Env} {run b:AFunc->Nat->List AItem->(Nat->Value)->NB->Option (List (Value×NB))} (h:∀af lim k fr H r,run af lim k fr H=some r->b af lim k fr H=some r):Nhh (QN E run) (QN E b):=by
 intro mp lim g as H r a
 unfold QN at a⊢
 cases g with
 | inr i=>
   simp only at a⊢
   split at a
   ·cases a
   rename_i c
   rw [Ni c]
   split at a
   ·split at a
    ·rename_i hc
     rw [Nk hc]
     exact h _ _ _ _ _ _ a
    ·cases a
   ·cases a
 | inl g=>
 simp only at a⊢
 split at a
 ·exact a
 split at a
 ·exact a
 ·split at a
  ·cases a
  ·rename_i af d
   split at a
   ·rename_i hp
    rw [Nk hp]
    split at a
    ·rename_i v H1 l h1
     rw [h _ _ _ _ _ _ h1]
     exact a
    ·cases a
   ·rename_i hp
    rw [Ni hp]
    split at a
    ·cases a
    ·rename_i c
     rw [Ni c]
     exact h _ _ _ _ _ _ a
theorem Ndd (E:Env):∀(n:Nat) (af:AFunc) (lim:Nat) (k:List AItem) (fr:Nat->Value) (H:NB) (r),OW E n af lim k fr H=some r->OW E (n+1) af lim k fr H=some r
 | 0,_,_,_,_,_,_,h=>by simp [OW] at h
 | n+1,af,lim,k,fr,H,r,h=>by
   have ih:=Ndd E n
   rw [OW.eq_def] at h⊢
   simp only at h⊢
   cases k with
   | nil=>exact h
   | cons x k=>
     cases x with
     | inBlock id=>exact ih _ _ _ _ _ _ h
     | inLoop c=>exact ih _ _ _ _ _ _ h
     | begin i=>
       simp only at h⊢
       split at h
       ·split at h
        ·rename_i hc
         rw [Nk hc]
         exact ih _ _ _ _ _ _ h
        ·cases h
       ·cases h
     | round i=>exact h
     | mark i=>exact h
     | ops base l=>
       have g:=VA (E:=E) fun e lim' k' fr' H' r h=>ih e lim' k' fr' H' r h
       cases l with
       | nil=>cases base<;>exact ih _ _ _ _ _ _ h
       | cons i l=>
         cases base with
         | none=>
           simp only at h⊢
           split at h
           ·rename_i L j
            rw [Z0 g j]
            exact Wp (fun r _ s d=>ih _ _ _ _ _ _ d) h
           ·cases h
         | some b=>
           simp only at h⊢
           split at h
           ·rename_i fr' H' j
            rw [Yh g.det j]
            exact ih _ _ _ _ _ _ h
           ·cases h
     | code c=>
       cases c<;>simp only at h⊢<;> first
        | exact ih _ _ _ _ _ _ h
        | exact h
        | skip
       case cond c a b=>
        cases hc:ev fr c<;>rw [hc] at h<;>first
         | (rename_i b;cases b<;>exact ih _ _ _ _ _ _ h)
         | (cases h;done)
       case exit id=>
        split at h
        ·exact ih _ _ _ _ _ _ h
        ·cases h
       case exitR id=>
        split at h
        ·exact ih _ _ _ _ _ _ h
        ·exact h
       case rangeF f ps a b=>
        split at h
        ·split at h
         ·rename_i L j
          rw [VA (fun e lim' k' fr' H' r h=>ih _ _ _ _ _ _ h) _ _ _ _ _ _ j]
          simp only
          refine Wp (fun r _ s d=>?_) h
          split at d
          ·rename_i x hb
           split at d
           ·cases d
           ·rename_i m
            rw [Ni m]
            exact ih _ _ _ _ _ _ d
          ·cases d
         ·cases h
        ·cases h
theorem UX (E:Env) {n m:Nat} (h:n<=m) {af:AFunc} {lim:Nat} {k:List AItem} {fr:Nat->Value} {H:NB} {r} (a:OW E n af lim k fr H=some r):OW E m af lim k fr H=some r:=by
 induction h with
 | refl=>exact a
 | step _ ih=>exact Ndd E _ _ _ _ _ _ _ ih
theorem Vu (E:Env) {n m:Nat} (h:n<=m):Nhh (Rh E n) (Rh E m):=VA fun _ _ _ _ _ _ a=>UX E h a
theorem Ncv (E:Env):∀(l:List AIns) (n:Nat) (af:AFunc) (lim b:Nat) (k:List AItem) (fr:Nat->Value) (H:NB) (r),OW E n af lim (.ops (some b) l::k) fr H=some r->
  ∃m fr' H',m<n/\Xg (det (Rh E (n-1))) af.ntmps lim (some b) l fr H=some (fr',H')/\OW E m af lim k fr' H'=some r
 | l,0,af,lim,b,k,fr,H,r,h=>by simp [OW] at h
 | [],n+1,af,lim,b,k,fr,H,r,h=>by
   rw [OW.eq_def] at h
   exact ⟨n,fr,H,by omega,rfl,h⟩
 | i::l,n+1,af,lim,b,k,fr,H,r,h=>by
   rw [OW.eq_def] at h
   simp only at h
   split at h
   ·rename_i fr1 H1 g
    obtain ⟨m,fr',H',h1,h2,e⟩:=Ncv E l n af lim b k fr1 H1 r h
    refine ⟨m,fr',H',by omega, ?_,e⟩
    have a:Tv (det (Rh E (n+1-1))) af.ntmps lim (some b) i fr H=some (fr1,H1):=g
    simp only [Xg,a]
    have mono:∀(l:List AIns) (fr:Nat->Value) (H:NB) r,Xg (det (Rh E (n-1))) af.ntmps lim (some b) l fr H=some r->Xg (det (Rh E (n+1-1))) af.ntmps lim (some b) l fr H=some r:=by
     intro l
     induction l with
     | nil=>intro fr H r h;exact h
     | cons i l ih=>
       intro fr H r h
       obtain ⟨f,K,c,d⟩:=VI h
       simp only [Xg,Yh (Vu E (show n-1<=n+1-1 by omega)).det c]
       exact ih _ _ _ d
    exact mono _ _ _ _ h2
   ·cases h
def Wz (C:Tf) (N lim:Nat):List AIns->(Nat->Value)->NB->Option (List ((Nat->Value)×NB))
 | [],fr,H=>some [(fr,H)]
 | i::l,fr,H=>match Yg C N lim i fr H with
   | some L=>TG (fun r=>Wz C N lim l r.1 r.2) L
   | none=>none
theorem Na4 {C a:Tf} (h:Nhh C a) {N lim:Nat}:∀{l:List AIns} {fr:Nat->Value} {H:NB} {r},Wz C N lim l fr H=some r->Wz a N lim l fr H=some r
 | [],fr,H,r,hx=>hx
 | i::l,fr,H,r,hx=>by
   simp only [Wz] at hx⊢
   split at hx
   ·rename_i L b
    rw [Z0 h b]
    exact Wp (fun x _ s c=>Na4 h c) hx
   ·cases hx
theorem Wo {α β:Type} {f:α->Option (List β)}:∀{l:List α},(∀x∈l,∃s,f x=some s)->∃r,TG f l=some r
 | [],_=>⟨[],rfl⟩
 | x::l,h=>by
   obtain ⟨s,a⟩:=h x (by simp)
   obtain ⟨r,hr⟩:=Wo (f:=f) (l:=l) fun y b=>h y (by simp [b])
   exact ⟨s++r,by simp only [TG,a,hr]⟩
theorem Nah (E:Env):∀(l:List AIns) (n:Nat) (af:AFunc) (lim:Nat) (k:List AItem) (fr:Nat->Value) (H:NB) (R),OW E n af lim (.ops none l::k) fr H=some R->
  ∃L,Wz (Rh E (n-1)) af.ntmps lim l fr H=some L/\∀r∈L,∃m b,m<n/\OW E m af lim k r.1 r.2=some b/\∀x∈b,x∈R
 | l,0,af,lim,k,fr,H,R,h=>by simp [OW] at h
 | [],n+1,af,lim,k,fr,H,R,h=>by
   rw [OW.eq_def] at h
   refine ⟨[(fr,H)],rfl,fun r hr=>?_⟩
   rw [Ng] at hr
   subst hr
   exact ⟨n,R,by omega,h,fun x o=>o⟩
 | i::l,n+1,af,lim,k,fr,H,R,h=>by
   rw [OW.eq_def] at h
   simp only at h
   split at h
   case h_2=>cases h
   rename_i L v
   have e:Yg (Rh E (n+1-1)) af.ntmps lim i fr H=some L:=v
   have each:∀r∈L,∃a,Wz (Rh E (n+1-1)) af.ntmps lim l r.1 r.2=some a/\∀q∈a,∃m b,m<n+1/\OW E m af lim k q.1 q.2=some b/\∀x∈b,x∈R:=fun r hr=>by
    obtain ⟨s,d,c⟩:=U0 h r hr
    obtain ⟨a,h1,h2⟩:=Nah E l n af lim k r.1 r.2 s d
    refine ⟨a,Na4 (Vu E (by omega)) h1,fun q g=>?_⟩
    obtain ⟨m,b,w,t,u⟩:=h2 q g
    exact ⟨m,b,by omega,t,fun x o=>c x (u x o)⟩
   obtain ⟨Q,p⟩:=Wo (f:=fun r:(Nat->Value)×NB=>Wz (Rh E (n+1-1)) af.ntmps lim l r.1 r.2) (l:=L) fun r hr=>by
    obtain ⟨a,h1,_⟩:=each r hr
    exact ⟨a,h1⟩
   refine ⟨Q,by simp only [Wz,e,p],fun q g=>?_⟩
   obtain ⟨r,hr,s,d,j⟩:=U1 p q g
   obtain ⟨a,h1,h2⟩:=each r hr
   rw [h1] at d
   cases d
   exact h2 q j
theorem Nd9 {α β:Type} {f:α->Option β} {l:List α} {r:List β} (h:YM f l=some r) (hl:l≠[]):r≠[]:=by
 cases l with
 | nil=>exact absurd rfl hl
 | cons x l=>
   obtain ⟨y,a,_⟩:=WV h x (by simp)
   intro e;rw [e] at a;cases a
theorem Ng2 {α β:Type} {f:α->Option (List β)} {l:List α} {r:List β} (h:TG f l=some r) (hl:l≠[]) (b:∀x∈l,∀s,f x=some s->s≠[]):r≠[]:=by
 cases l with
 | nil=>exact absurd rfl hl
 | cons x l=>
   obtain ⟨s,c,a⟩:=U0 h x (by simp)
   obtain ⟨y,d⟩:=Qt _ (b x (by simp) s c)
   intro e;have:=a y d;rw [e] at this;cases this
theorem Ntm {C:Tf} (d:∀mp lim g as H L,C mp lim g as H=some L->L≠[]) {N lim:Nat} {i:AIns} {fr:Nat->Value} {H:NB} {L} (h:Yg C N lim i fr H=some L):L≠[]:=by
 have b:∀{α:Type} {r:Option α} {L:List α},r.map (fun r=>[r])=some L->L≠[]:=fun {α r L} h=>by
  simp only [Nc] at h
  obtain ⟨p,_,rfl⟩:=h
  simp
 unfold Yg at h
 split at h
 ·cases h
 ·simp only [Nc] at h;obtain ⟨_,_,rfl⟩:=h;simp
 ·split at h
  case h_2=>cases h
  rename_i L0 a
  refine Nd9 h ?_
  unfold Ug at a
  split at a
  ·unfold WI at a
   split at a
   ·split at a
    case h_2=>cases a
    split at a
    case h_2=>cases a
    rename_i e c
    exact Nd9 a (d _ _ _ _ _ _ c)
   ·exact b a
  unfold MM at a
  split at a
  ·exact b a
  ·unfold Nbl at a
   repeat' (split at a)
   all_goals first
    | (cases a;done)
    | (cases a;simp;done)
    | exact Nd9 a (by simp)
  ·exact b a
  ·cases a
theorem Mh {E:Env} {run:AFunc->Nat->List AItem->(Nat->Value)->NB->Option (List (Value×NB))} (h:∀af lim k fr H L,run af lim k fr H=some L->L≠[]):∀mp lim g as H L,QN E run mp lim g as H=some L->L≠[]:=by
 intro mp lim g as H L a
 unfold QN at a
 cases g with
 | inr i=>
   simp only at a
   repeat' (split at a)
   all_goals first | (cases a;done) | exact h _ _ _ _ _ _ a
 | inl g=>
   simp only at a
   repeat' (split at a)
   all_goals first | (cases a;done) | (cases a;simp;done) | exact h _ _ _ _ _ _ a
theorem X4 (E:Env):∀(n:Nat) (af:AFunc) (lim:Nat) (k:List AItem) (fr:Nat->Value) (H:NB) (L),OW E n af lim k fr H=some L->L≠[]
 | 0,_,_,_,_,_,_,h=>by simp [OW] at h
 | n+1,af,lim,k,fr,H,L,h=>by
   have ih:=X4 E n
   have g:=Mh (E:=E) ih
   have d:∀{r:Option (Value×NB)},one r=some L->L≠[]:=fun h=>by obtain ⟨x,_,rfl⟩:=UD h;simp
   rw [OW.eq_def] at h
   simp only at h
   cases k with
   | nil=>exact d h
   | cons x k=>
     cases x with
     | inBlock id=>exact ih _ _ _ _ _ _ h
     | inLoop c=>exact ih _ _ _ _ _ _ h
     | begin i=>
       simp only at h
       split at h
       ·split at h
        ·exact ih _ _ _ _ _ _ h
        ·cases h
       ·cases h
     | round i=>
       simp only at h
       split at h
       ·exact d h
       ·cases h
     | mark i=>simp at h
     | ops base l=>
       cases l with
       | nil=>cases base<;>exact ih _ _ _ _ _ _ h
       | cons i l=>
         cases base with
         | none=>
           simp only at h
           split at h
           ·rename_i L0 j
            exact Ng2 h (Ntm g j) fun r _ s e=>ih _ _ _ _ _ _ e
           ·cases h
         | some b=>
           simp only at h
           split at h
           ·exact ih _ _ _ _ _ _ h
           ·cases h
     | code c=>
       cases c<;>simp only at h<;>first
        | exact ih _ _ _ _ _ _ h
        | exact d h
        | skip
       case cond c a b=>
        cases hc:ev fr c<;>rw [hc] at h<;>first
         | (rename_i b;cases b<;>exact ih _ _ _ _ _ _ h)
         | (cases h;done)
       case exit id=>
        split at h
        ·exact ih _ _ _ _ _ _ h
        ·cases h
       case retM=>
        split at h
        ·exact d h
        ·cases h
       case retR=>
        split at h
        ·split at h
         ·exact d h
         ·cases h
        ·cases h
       case exitR id=>
        split at h
        ·exact ih _ _ _ _ _ _ h
        ·split at h
         ·split at h
          ·exact d h
          ·cases h
         ·cases h
       case rangeF f ps a b=>
        split at h
        ·split at h
         ·rename_i L0 j
          refine Ng2 h (g _ _ _ _ _ _ j) fun r _ s e=>?_
          split at e
          ·split at e
           ·cases e
           ·exact ih _ _ _ _ _ _ e
          ·cases e
         ·cases h
        ·cases h
theorem Nsb (E:Env) {n:Nat} {mp:Bool} {lim:Nat} {g:FuncId ⊕ Nat} {as:List Value} {H:NB} {L} (h:Rh E n mp lim g as H=some L):L≠[]:=Mh (X4 E n) _ _ _ _ _ _ h
theorem Ndl {lim:Nat} {H H':NB} {a:Addr} {vs:List Value} (h:storeAt lim H a vs=some H'):H.length<=H'.length:=by rw [Tp h];exact Nd _
theorem UY {dest:Option Nat} {b:Blk} {H:NB}:H.length<=(place dest b H).2.length:=by
 cases dest<;>simp [place]
theorem Ndf {o:AOp} (b:isL o=false) {lim:Nat} {dest:Option Nat} {ρ:Operand->Value} {H H':NB} {v:Value} (hn:kind o≠.n) (h:NH lim dest o ρ H=some (v,H')):H.length<=H'.length:=by
 cases hk:kind o with
 | n=>exact absurd hk hn
 | p=>rw [(Nq6 hk h).1];exact Nd _
 | r=>
   by_cases hc:∃mp f args,o=.call mp f args
   ·obtain ⟨mp,f,args,rfl⟩:=hc;simp [NH] at h
   ·rw [V8 hk (fun mp f args e=>hc ⟨mp,f,args,e⟩) h];exact Nd _
 | c=>
   cases o<;>simp [kind] at hk
   simp [NH] at h
 | a=>
   cases o<;>simp [kind] at hk<;>simp only [NH] at h
   case alloc=>cases h;exact UY
   case box=>
    split at h
    case isFalse=>cases h
    cases h;exact UY
   case buildSlice=>
    split at h
    case h_2=>cases h
    cases h;exact UY
   case makeSlice=>
    split at h
    case h_2=>cases h
    split at h
    case isFalse=>cases h
    cases h;exact UY
   case growNil=>
    split at h
    case h_2=>cases h
    split at h
    case isFalse=>cases h
    cases h;exact UY
   case makeMap=>
    split at h
    case h_2=>cases h
    cases h;exact UY
   case call mp f args=>split at hk<;>cases hk
 | s=>
   have i:=UE hk
   cases o<;>simp [X8] at i
   have h':=V5 h
   simp only [WG] at h'
   rw [WY (o:=.store _ _ _) rfl rfl h'];exact Nd _
 | w=>
   cases hm:makes o with
   | false=>rw [WY hk hm h];exact Nd _
   | true=>
     cases dest with
     | some d=>rw [Wd hk h];exact Nd _
     | none=>
       have g:∃esz bytes str s x,o=.append esz bytes str s x:=by
        cases o<;>simp [makes,kind] at hm<;>(try (simp [kind] at hk;done))
        case append=>exact ⟨_,_,_,_,_,rfl⟩
        case appendL=>simp [isL] at b
        all_goals (exfalso;simp [kind] at hk;try (split at hk<;>cases hk))
       obtain ⟨esz,bytes,str,s,x,rfl⟩:=g
       simp only [NH] at h
       unfold OH at h
       split at h
       case h_2=>cases h
       split at h
       ·cases h
       split at h
       ·cases h;exact Nd _
       split at h
       ·split at h
        ·cases h;simp [place]
        ·cases h
       ·split at h
        ·cases h
        split at h
        ·split at h
         ·split at h
          ·cases h;simp [place]
          ·cases h
         ·cases h
        ·split at h
         ·split at h
          ·split at h
           ·rename_i h1;cases h;exact Ndl h1
           ·cases h
          ·cases h;simp [place]
         ·cases h
theorem Ng7 {o:AOp} {lim:Nat} {dest:Option Nat} {ρ:Operand->Value} {H H':NB} {v:Value} (hn:kind o≠.n) (h:NH lim dest o ρ H=some (v,H')):H.length<=H'.length:=by
 cases hL:isL o with
 | false=>exact Ndf hL hn h
 | true=>obtain ⟨_,_,h1,h2,_⟩:=M4 hL;exact Ndf h1 (by rw [h2];simp) (V5 h)
theorem Nkq {o:AOp} {lim:Nat} {dest:Option Nat} {ρ:Operand->Value} {H H':NB} {v:Value} (h:NH lim dest o ρ H=some (v,H')):H.length<=H'.length:=by
 by_cases hn:kind o=.n
 ·cases o<;>(try (simp [kind] at hn;done))
  ·exact Ng7 (by simp [WG,kind]) (V5 h)
  ·rename_i mp f as'
   cases mp<;>simp [kind,CM.isPure] at hn
 ·exact Ng7 hn h
def Nby (C:TH):Prop:=∀mp lim g as H v H',C mp lim g as H=some (v,H')->lim<=H.length->H.length<=H'.length/\Grow lim H H'
theorem ZH {C:TH} (j:Nby C) {lim:Nat} {dest:Option Nat} {o:AOp} {ρ:Operand->Value} {H H':NB} {v:Value} (h:Rj C lim dest o ρ H=some (v,H')) (k:∀d,dest=some d->lim<=d) (hl:lim<=H.length) :
  H.length<=H'.length/\Grow lim H H':=by
 by_cases hc:∃mp f args,o=.call mp f args
 ·obtain ⟨mp,f,args,rfl⟩:=hc
  simp only [Rj] at h
  split at h
  ·obtain ⟨a,b⟩:=CM.lim_le mp hl
   obtain ⟨g,i⟩:=j _ _ _ _ _ _ _ (SN h).1 b
   exact ⟨g,i.weaken a⟩
  ·cases h
 ·have c:∀mp f args,o≠.call mp f args:=fun mp f args e=>hc ⟨mp,f,args,e⟩
  rw [NY c] at h
  exact ⟨Nkq h,Nbk h k hl⟩
theorem Ney {lim base:Nat} {l:List Nat} {H X:NB} (g:lim<=base) (h:Grow lim (NN base l H) X):Grow lim H (NL base l H X):=⟨fun j b hb f=>by
 by_cases c:∃i∈l,base+i=j
 ·have d:j<X.length:=by
   have:=(List.getElem?_eq_some_iff.1 hb).1
   rw [PD] at this;exact this
  rw [RG base H l X c d] at hb
  simp only [Option.some.injEq] at hb
  exact .inl (RV hb f)
 ·have a:∀i∈l,base+i≠j:=fun i hi e=>c ⟨i,hi,e⟩
  rw [QR base H l X a] at hb
  rcases h j b hb f with h1 | h1
  ·rw [QE base l H a] at h1;exact .inl h1
  ·exact .inr h1,fun j c=>by
 have a:∀i∈l,base+i≠j:=fun i hi e=>by omega
 rw [QR base H l X a,h.keep j c,QE base l H a]⟩
theorem Nau {C:TH} (c:Nby C) {N lim:Nat} {base:Option Nat} {i:AIns} {fr fr':Nat->Value} {H H':NB} (h:Tv C N lim base i fr H=some (fr',H')) (hb:∀b,base=some b->lim<=b) (hl:lim<=H.length) :
  H.length<=H'.length/\Grow lim H H':=by
 unfold Tv at h
 cases hv:SL C N lim base i fr H with
 | none=>rw [hv] at h;cases h
 | some p=>
   obtain ⟨v,K⟩:=p
   rw [hv] at h
   simp only [Nc,Prod.mk.injEq] at h
   obtain ⟨f,j,rfl,rfl⟩:=h
   unfold SL at hv
   cases hw:RF N fr i.guard with
   | none=>rw [hw] at hv;cases hv
   | some b=>
     rw [hw] at hv
     cases b with
     | false=>cases hv;exact ⟨Nd _,Grow.refl _ _⟩
     | true=>
       cases base with
       | none=>exact ZH c hv (fun d e=>by cases e) hl
       | some b=>
         simp only at hv
         cases hs:Rj C lim (i.dest.map (b+·)) i.op (ev fr) (NN b i.mask H) with
         | none=>rw [hs] at hv;cases hv
         | some q=>
           obtain ⟨k,X⟩:=q
           rw [hs] at hv
           cases hv
           obtain ⟨a,g⟩:=ZH c hs (fun d e=>by
            simp only [Nc] at e
            obtain ⟨r,_,rfl⟩:=e
            have:=hb b rfl
            omega) (by rw [OG];exact hl)
           exact ⟨by rw [PD];rw [OG] at a;exact a,Ney (hb b rfl) g⟩
theorem MR {lim i:Nat} {H:NB} {b:Blk} (h:lim<=i) (ho:owned b=true):H.length<=(H.set i b).length/\Grow lim H (H.set i b):=⟨by simp,Grow.set h fun _=>ho⟩
theorem Ncp {lim:Nat}:∀{l:List Nat} {H H':NB},shut lim l H=some H'->H.length<=H'.length/\Grow lim H H'
 | [],H,H',h=>by cases h;exact ⟨Nd _,Grow.refl _ _⟩
 | i::l,H,H',h=>by
   simp only [shut] at h
   split at h
   ·split at h
    ·rename_i hl
     obtain ⟨h1,h2⟩:=Ncp h
     exact ⟨by simpa using h1,(Grow.set (b:=.dead) hl fun h=>by simp [alive] at h).trans h2⟩
    ·cases h
   ·cases h
theorem Nca {lim i:Nat} {j:Option ACode} {H H':NB} {v:Value} (hl:lim<=i) (h:endRound i j H=some (v,H')):H.length<=H'.length/\Grow lim H H':=by
 unfold endRound at h
 split at h
 ·cases h;exact MR hl rfl
 ·cases h
def TE (C:Tf):Prop:=∀mp lim g as H L,C mp lim g as H=some L->lim<=H.length->∀r∈L,H.length<=r.2.length/\Grow lim H r.2
theorem TE.det {C:Tf} (h:TE C):Nby (AM.det C):=fun mp lim g as H v H' a hl=>h _ _ _ _ _ _ (SA a) hl (v,H') (by simp)
theorem Nju {lim:Nat} {v:Value} {H:NB} {L} (h:Nbl lim v H=some L):∀r∈L,H.length<=r.2.length/\Grow lim H r.2:=fun r hr=>by
 unfold Nbl at h
 split at h
 case h_2=>cases h
 split at h
 case h_2=>cases h
 split at h
 case isFalse=>cases h
 rename_i hl
 split at h
 case h_2=>cases h
 split at h
 case isFalse=>cases h
 split at h
 ·cases h
  rw [Ng] at hr
  subst hr
  exact ⟨Nd _,Grow.refl _ _⟩
 ·obtain ⟨j,_,a⟩:=Xt h r hr
  split at a
  ·split at a
   ·cases a;exact ⟨by simp,Grow.set hl fun _=>rfl⟩
   ·cases a
  ·cases a
theorem Nhr {C:Tf} (j:TE C) {lim:Nat} {o:AOp} {ρ:Operand->Value} {H:NB} {L} (h:WI C lim o ρ H=some L) (hl:lim<=H.length):∀r∈L,H.length<=r.2.length/\Grow lim H r.2:=fun r hr=>by
 by_cases hc:∃mp f args,o=.call mp f args
 ·obtain ⟨mp,f,args,rfl⟩:=hc
  simp only [WI] at h
  split at h
  case h_2=>cases h
  split at h
  case h_2=>cases h
  rename_i L0 a
  obtain ⟨x,k,e⟩:=Xt h r hr
  obtain ⟨b,c⟩:=CM.lim_le mp hl
  have:=(SN e).1
  cases this
  obtain ⟨g,i⟩:=j _ _ _ _ _ _ a c r k
  exact ⟨g,i.weaken b⟩
 ·have plain:∀{v:Value} {H':NB},(NH lim none o ρ H).map (fun r=>[r])=some L->r=(v,H')->H.length<=H'.length/\Grow lim H H':=fun {v H'} h e=>by
   simp only [Nc] at h
   obtain ⟨p,hp,rfl⟩:=h
   rw [Ng] at hr
   subst hr
   cases e
   exact ⟨Nkq hp,Nbk hp (fun d e=>by cases e) hl⟩
  cases o<;>first
   | exact absurd ⟨_,_,_,rfl⟩ hc
   | exact plain h rfl
theorem Nhp {C:Tf} (a:TE C) {lim:Nat} {i:AIns} {ρ:Operand->Value} {H:NB} {L} (h:Ug C lim i ρ H=some L) (hl:lim<=H.length):∀r∈L,H.length<=r.2.length/\Grow lim H r.2:=fun r hr=>by
 unfold Ug at h
 split at h
 ·exact Nhr a h hl r hr
 unfold MM at h
 split at h
 ·simp only [Nc] at h
  obtain ⟨p,hp,rfl⟩:=h
  rw [Ng] at hr
  subst hr
  unfold VL at hp
  split at hp
  ·cases hp;exact ⟨by simp,Grow.app hl fun b hb _=>by simp at hb;subst hb;rfl⟩
  ·cases hp
 ·exact Nju h r hr
 ·simp only [Nc] at h
  obtain ⟨p,hp,rfl⟩:=h
  rw [Ng] at hr
  subst hr
  unfold Nbm at hp
  repeat' (split at hp)
  all_goals first
   | (cases hp;done)
   | (cases hp;exact ⟨Nd _,Grow.refl _ _⟩)
 ·cases h
theorem Nmi {C:Tf} (c:TE C) {N lim:Nat} {i:AIns} {fr:Nat->Value} {H:NB} {L} (h:Yg C N lim i fr H=some L) (hl:lim<=H.length):∀r∈L,H.length<=r.2.length/\Grow lim H r.2:=fun r hr=>by
 unfold Yg at h
 cases hw:RF N fr i.guard with
 | none=>rw [hw] at h;cases h
 | some b=>
   rw [hw] at h
   cases b with
   | false=>
     simp only [Nc] at h
     obtain ⟨f,_,rfl⟩:=h
     rw [Ng] at hr
     subst hr
     exact ⟨Nd _,Grow.refl _ _⟩
   | true=>
     simp only at h
     split at h
     case h_2=>cases h
     rename_i L0 a
     obtain ⟨x,d,e⟩:=Xt h r hr
     simp only [Nc] at e
     obtain ⟨f,_,rfl⟩:=e
     exact Nhp c a hl x d
theorem Nml {lim:Nat} {H:NB} {X:List (List Value)} (hl:lim<=H.length):Grow lim H (H++news X):=⟨fun j b hb a=>by
 rcases Ol j H.length with h | h
 ·rw [Ny h] at hb;exact .inl hb
 ·rw [N0 h] at hb
  unfold news at hb
  rw [O0] at hb
  simp only [Nc] at hb
  obtain ⟨c,_,rfl⟩:=hb
  exact .inr ⟨rfl,by omega⟩,fun j d=>by rw [Ny (by omega)]⟩
theorem No0 {lim:Nat} {H:NB} {u:Option (Nat×List Value)} (h:Ncm lim H u=true):(No1 H u).length=H.length/\Grow lim H (No1 H u):=by
 cases u with
 | none=>exact ⟨rfl,Grow.refl _ _⟩
 | some x=>
   obtain ⟨R,c⟩:=x
   simp only [Ncm,Nq,Nx] at h
   exact ⟨by simp [No1],Grow.set h.1 fun _=>rfl⟩
theorem XO {E:Env} {run:AFunc->Nat->List AItem->(Nat->Value)->NB->Option (List (Value×NB))}
  (h:∀af lim k fr H L,(∀x∈k,∀b l,x≠.ops (some b) l)->run af lim k fr H=some L->lim<=H.length->∀r∈L,H.length<=r.2.length/\Grow lim H r.2):TE (QN E run):=by
 intro mp lim g as H L a hl r hr
 unfold QN at a
 have keep:∀{v:Value},some [(v,H)]=some L->H.length<=r.2.length/\Grow lim H r.2:=fun {v} e=>by
  cases e
  rw [Ng] at hr
  subst hr
  exact ⟨Nd _,Grow.refl _ _⟩
 cases g with
 | inr i=>
   simp only at a
   split at a
   ·cases a
   split at a
   ·split at a
    ·exact h _ _ _ _ _ _ (fun x a b l e=>by simp at a;rcases a with rfl | rfl | rfl | rfl<;>cases e) a hl r hr
    ·cases a
   ·cases a
 | inl g=>
 simp only at a
 split at a
 ·split at a
  ·exact keep a
  ·cases a
 split at a
 ·split at a
  ·cases a
  ·rename_i hc
   cases a
   rw [Ng] at hr
   subst hr
   simp only [Bool.or_eq_true,Bool.not_eq_true',not_or,Bool.not_eq_false] at hc
   have c:=No0 hc.2
   exact ⟨by simp [Nji,c.1],c.2.trans (Nml (by omega))⟩
 ·split at a
  ·cases a
  ·split at a
   ·split at a
    ·split at a
     ·split at a
      ·exact keep a
      ·cases a
     ·cases a
    ·cases a
   ·split at a
    ·cases a
    ·exact h _ _ _ _ _ _ (fun x a b l e=>by simp at a;subst a;cases e) a hl r hr
theorem X5 {id:Nat}:∀{k k':List AItem} {a:AItem->Prop},R9 id k=some k'->(∀x∈k,a x)->∀x∈k',a x
 | [],_,_,h,_=>by simp [R9] at h
 | y::k,k',a,h,hp=>by
   have b:∀x∈k,a x:=fun x c=>hp x (Od _ c)
   cases y<;>simp only [R9] at h
   case inBlock d=>
    split at h
    ·cases h;exact b
    ·exact X5 h b
   all_goals exact X5 h b
theorem Nde (E:Env):∀(n:Nat) (af:AFunc) (lim:Nat) (k:List AItem) (fr:Nat->Value) (H:NB) (L:List (Value×NB)),(∀x∈k,∀b l,x=.ops (some b) l->lim<=b)->OW E n af lim k fr H=some L->lim<=H.length->
  ∀r∈L,H.length<=r.2.length/\Grow lim H r.2
 | 0,_,_,_,_,_,_,_,h,_,_,_=>by simp [OW] at h
 | n+1,af,lim,k,fr,H,L,hk,h,hl,r,hr=>by
   have ih:=Nde E n
   rw [OW.eq_def] at h
   simp only at h
   have D:one ((result fr H af.results).map (·,H))=some L->H.length<=r.2.length/\Grow lim H r.2:=fun h=>by
    obtain ⟨x,h',rfl⟩:=UD h
    rw [Ng] at hr
    subst hr
    simp only [Nc] at h'
    obtain ⟨_,_,rfl⟩:=h'
    exact ⟨Nd _,Grow.refl _ _⟩
   have o:∀{i:Nat} {j:Option ACode},lim<=i->one (endRound i j H)=some L->H.length<=r.2.length/\Grow lim H r.2:=fun {i j} I h=>by
    obtain ⟨x,h',rfl⟩:=UD h
    rw [Ng] at hr
    subst hr
    exact Nca I h'
   have w:TE (QN E (OW E n)):=XO fun N lim' k' fr' H0 L0 F h0 G=>ih _ _ _ _ _ _ (fun x d b l e=>absurd e (F x d b l)) h0 G
   cases k with
   | nil=>exact D h
   | cons x k=>
     have g:∀x∈k,∀b l,x=.ops (some b) l->lim<=b:=fun x d=>hk x (Od _ d)
     have add:∀{c:AItem},(∀b l,c≠.ops (some b) l)->∀x∈c::k,∀b l,x=.ops (some b) l->lim<=b:=fun {c} hc x d b l e=>by
      rcases Nh.1 d with h | h
      ·subst h;exact absurd e (hc b l)
      ·exact g x h b l e
     cases x with
     | inBlock id=>exact ih _ _ _ _ _ _ g h hl r hr
     | begin i=>
       simp only at h
       split at h
       ·split at h
        ·rename_i hc
         obtain ⟨u,p⟩:=MR (H:=H) (b:=.loop { ‹LoopB› with st:=1 }) hc.2 rfl
         obtain ⟨C,v⟩:=ih _ _ _ _ _ _ g h (by simpa using hl) r hr
         exact ⟨by simpa using C,p.trans v⟩
        ·cases h
       ·cases h
     | round i=>
       simp only at h
       split at h
       ·exact o ‹_› h
       ·cases h
     | mark i=>simp at h
     | inLoop c=>
       refine ih _ _ _ _ _ _ (fun x d b l e=>?_) h hl r hr
       rcases Nh.1 d with h | h
       ·subst h;cases e
       ·exact add (c:=.inLoop c) (by simp) x h b l e
     | ops base l=>
       cases l with
       | nil=>cases base<;>exact ih _ _ _ _ _ _ g h hl r hr
       | cons i l=>
         cases base with
         | none=>
           simp only at h
           split at h
           ·rename_i L0 d
            obtain ⟨x,K,s,B,A⟩:=U1 h r hr
            obtain ⟨u,p⟩:=Nmi w d hl x K
            obtain ⟨C,v⟩:=ih _ _ _ _ _ _ (add (c:=.ops none l) (by simp)) B (by omega) r A
            exact ⟨by omega,p.trans v⟩
           ·cases h
         | some O=>
           simp only at h
           split at h
           ·rename_i fr' H1 d
            obtain ⟨u,p⟩:=Nau w.det d (fun b e=>hk _ Oy b (i::l) (by cases e;rfl)) hl
            obtain ⟨C,v⟩:=ih _ _ _ _ _ _ (fun x d b M e=>by
             rcases Nh.1 d with h | h
             ·subst h;cases e;exact hk _ Oy O (i::l) rfl
             ·exact g x h b M e) h (by omega) r hr
            exact ⟨by omega,p.trans v⟩
           ·cases h
     | code c=>
       cases c<;>simp only at h
       case skip=>exact ih _ _ _ _ _ _ g h hl r hr
       case ops l=>exact ih _ _ _ _ _ _ (add (c:=.ops none l) (by simp)) h hl r hr
       case drawn m l=>
        obtain ⟨u,p⟩:=ih _ _ _ _ _ _ (fun x d b M e=>by
         rcases Nh.1 d with h | h
         ·subst h;cases e;exact hl
         ·exact g x h b M e) h (by simp;omega) r hr
        exact ⟨by simp at u;omega,(Grow.dead hl m).trans p⟩
       case seq a b=>
        refine ih _ _ _ _ _ _ (fun x d b' l e=>?_) h hl r hr
        rcases Nh.1 d with h | h
        ·subst h;cases e
        ·exact add (c:=.code b) (by simp) x h b' l e
       case cond c a b=>
        cases hc:ev fr c<;>rw [hc] at h<;>first
         | (rename_i t;cases t<;>exact ih _ _ _ _ _ _ (add (by simp)) h hl r hr)
         | (cases h;done)
       case block id b=>
        refine ih _ _ _ _ _ _ (fun x d b' l e=>?_) h hl r hr
        rcases Nh.1 d with h | h
        ·subst h;cases e
        ·exact add (c:=.inBlock id) (by simp) x h b' l e
       case loop b=>
        refine ih _ _ _ _ _ _ (fun x d b' l e=>?_) h hl r hr
        rcases Nh.1 d with h | h
        ·subst h;cases e
        ·exact add (c:=.inLoop b) (by simp) x h b' l e
       case exit id=>
        split at h
        ·rename_i k' z
         exact ih _ _ _ _ _ _ (X5 z g) h hl r hr
        ·cases h
       case ret=>exact D h
       case retM=>
        split at h
        ·rename_i H1 J
         obtain ⟨u,p⟩:=Ncp (lim:=lim) J
         obtain ⟨x,h',rfl⟩:=UD h
         rw [Ng] at hr
         subst hr
         simp only [Nc] at h'
         obtain ⟨_,_,rfl⟩:=h'
         exact ⟨u,p⟩
        ·cases h
       case retR=>
        split at h
        ·split at h
         ·exact o ‹_› h
         ·cases h
        ·cases h
       case exitR id=>
        split at h
        ·rename_i k' z
         exact ih _ _ _ _ _ _ (X5 z g) h hl r hr
        ·split at h
         ·split at h
          ·exact o ‹_› h
          ·cases h
         ·cases h
       case rangeF f ps a b=>
        split at h
        ·split at h
         ·rename_i L0 d
          obtain ⟨q,P,s,B,A⟩:=U1 h r hr
          obtain ⟨u,p⟩:=w _ _ _ _ _ _ d (by simp;omega) q P
          simp at u
          split at B
          ·rename_i x hb
           split at B
           ·cases B
           ·obtain ⟨C,v⟩:=ih _ _ _ _ _ _ (fun y hy b l e=>by
             rcases Ob.1 hy with hy | hy
             ·cases hp:x.pend<;>rw [hp] at hy<;>simp at hy
              subst hy;cases e
             ·rcases Ob.1 hy with hy | hy
              ·exact g y hy b l e
              ·simp at hy;subst hy;cases e) B (by simp;omega) r A
            simp at C
            exact ⟨by omega,(Grow.app hl fun b hb _=>by simp at hb;rcases hb with rfl | rfl<;>rfl).trans (p.trans ((Grow.set (b:=.dead) (by omega) fun h=>by simp [alive] at h).trans v))⟩
          ·cases B
         ·cases h
        ·cases h
open Go.RowKit
structure CallOkS (Pg:Prg) (C:Tf):Prop where
 fn:∀mp lim g as H L,C mp lim (.inl g) as H=some L->∃fn,Pg.P.funcs[g]? = some fn/\fn.body.isSome=true/\(fn.name == "runtime.NumGoroutine")=false
 calls:∀mp lim g as H L,C mp lim (.inl g) as H=some L->lim<=H.length->∀W σ w as',Inv Pg W lim σ H w->OB σ as as'->Calls Pg.P g as'.toArray w fun e w'=>∃r∈L,UI Pg W lim σ H r.1 r.2 w e w'
 rounds:∀mp lim i as H L,C mp lim (.inr i) as H=some L->lim<=H.length->∀W σ w as' L0,Inv Pg W lim σ H w->OB σ as as'->σ i=some L0->
  ∃r,w.heap[L0.blk]? = some (.loop r)/\as'.toArray.size=r.params.size/\RoundIn Fence.wide 0 Pg.P L0.blk r.fn (Tg r as'.toArray) r.assign r.body w fun e w'=>∃x∈L,UI Pg W lim σ H x.1 x.2 w e w'
 grow:TE C
 pure:∀lim g as H L,C true lim g as H=some L->∀r∈L,r.2=H
theorem CallOkS.det {Pg:Prg} {C:Tf} (h:CallOkS Pg C):CallOk Pg (AM.det C) where
 pure lim g as H v H' hx:=h.pure _ _ _ _ _ (SA hx) (v,H') (by simp)
 len mp lim g as H v H' hx hl:=(h.grow _ _ _ _ _ _ (SA hx) hl (v,H') (by simp)).1
 keep mp lim g as H v H' hx hl:=(h.grow _ _ _ _ _ _ (SA hx) hl (v,H') (by simp)).2.keep
 fn mp lim g as H v H' hx:=h.fn _ _ _ _ _ _ (SA hx)
 calls mp lim g as H v H' hx hl W σ w as' hinv ha:=(h.calls _ _ _ _ _ _ (SA hx) hl W σ w as' hinv ha).mono fun e w' hp=>by
  obtain ⟨r,hr,hp⟩:=hp
  rw [Ng] at hr
  subst hr
  exact hp
 rounds mp lim i as H v H' hx hl W σ w as' L hinv ha hL:=by
  obtain ⟨r,h1,h2,a⟩:=h.rounds _ _ _ _ _ _ (SA hx) hl W σ w as' L hinv ha hL
  exact ⟨r,h1,h2,a.mono fun e w' hp=>by
   obtain ⟨x,hx,hp⟩:=hp
   rw [Ng] at hx
   subst hx
   exact hp⟩
 grow mp lim g as H v H' hx hl:=(h.grow _ _ _ _ _ _ (SA hx) hl (v,H') (by simp)).2
theorem Ng0 (Pg:Prg):CallOk Pg fun _ _ _ _ _=>none where
 pure:=fun _ _ _ _ _ _ h=>by cases h
 len:=fun _ _ _ _ _ _ _ h=>by cases h
 keep:=fun _ _ _ _ _ _ _ h=>by cases h
 fn:=fun _ _ _ _ _ _ _ h=>by cases h
 calls:=fun _ _ _ _ _ _ _ h=>by cases h
 rounds:=fun _ _ _ _ _ _ _ h=>by cases h
 grow:=fun _ _ _ _ _ _ _ h=>by cases h
section
variable {P:Program} {pf pureF:FuncId->Bool} {C:Tf} {W:Nat->Prop} {lim:Nat} {σ:PQ} {H H':NB} {w:World} {ds:List Deferred} {ro:Option Nat}
theorem Nqk {r o n:Nat} {seen:List Nat} {ty:TypeId} {ents:Array MapEntry} (hr:w.heap[r]? = some (.mapIter (some o) n seen.toArray n)) (hb:w.heap[o]? = some (.map ents n)) (g:∀(j:Nat) e,ents[j]? = some e->e.born=j) (A:ents.size=n) :
  (WE n seen=[]/\(Instr.next (.pointer (some ⟨r,0,none⟩)) false ty).run P w=.ok (.tuple #[.bool false]) w)\/
  ∃j∈WE n seen,∃e,ents[j]? = some e/\∃c,(c=w\/c=w.drew)/\(Instr.next (.pointer (some ⟨r,0,none⟩)) false ty).run P w=.ok (.tuple #[.bool true,e.key,e.val]) (c.putObj r (.mapIter (some o) n (seen++[j]).toArray n)):=by
 have f:∀x∈ents.toList,x.born<n:=fun x a=>by
  obtain ⟨j,d,rfl⟩:=List.mem_iff_getElem.1 a
  have:=g j ents[j] (by simp)
  simp at d
  simp
  omega
 simp only [Instr.next,getObj,Sem.run_bind,Sem.run,hr,hb,Result.andThen,next_test_false seen.toArray ents n n f (Nd _),No,if_false]
 have b:∀x∈(Array.filter (fun e=>!seen.toArray.contains e.born) ents).toList,x.born<n:=fun x a=>f x (by simp at a⊢;exact a.1)
 have i:∀x∈(Array.filter (fun e=>!seen.toArray.contains e.born) ents).toList,x.born∈WE n seen/\ents[x.born]? = some x:=fun x a=>by
  simp at a
  obtain ⟨j,d,rfl⟩:=Array.mem_iff_getElem.1 a.1
  have hb:=g j ents[j] (by simp)
  rw [hb]
  refine ⟨?_,by simp⟩
  unfold WE
  rw [Oo,List.mem_range]
  exact ⟨by omega,by have:=a.2;rw [hb] at this;simpa using this⟩
 have k:WE n seen≠[]->(Array.filter (fun e=>!seen.toArray.contains e.born) ents)≠#[]:=fun h e=>by
  obtain ⟨j,d⟩:=Qt _ h
  unfold WE at d
  rw [Oo,List.mem_range] at d
  have q:j<ents.size:=by omega
  have v:ents[j]∈Array.filter (fun e=>!seen.toArray.contains e.born) ents:=by
   rw [Array.mem_filter]
   refine ⟨Array.getElem_mem q, ?_⟩
   rw [g j ents[j] (by simp)]
   simpa using d.2
  rw [e] at v
  simp at v
 generalize Array.filter (fun e=>!seen.toArray.contains e.born) ents=L at b i k⊢
 have e1:L.filter (fun x=>decide (x.born<n))=L:=Array.filter_eq_self.2 (fun x a=>by simpa using b x (by simpa using a))
 have e2:L.filter (fun x=>decide (x.born>=n))=#[]:=by
  rw [Array.filter_eq_empty_iff]
  intro x a
  have:=b x (by simpa using a)
  simp
  omega
 simp only [e1,e2,Array.append_empty]
 by_cases h0:L.size=0
 ·left
  have:L=#[]:=Array.eq_empty_of_size_eq_zero h0
  subst this
  refine ⟨Oi fun h=>k h rfl, ?_⟩
  simp [choose,Sem.run,Question.forced]
 ·right
  have s:L.isEmpty=false:=by simp [Array.isEmpty,h0]
  simp only [s,No,if_false,Array.empty_append,Array.size_map]
  have p:∃(j:Nat) (c:World),j<L.size/\(c=w\/c=w.drew)/\(choose (Question.mapNext L.size)).run P w=.ok j c:=by
   by_cases u:L.size<=1
   ·exact ⟨0,w,by omega,.inl rfl,by simp [choose,Sem.run,Question.forced,u]⟩
   ·exact ⟨_,w.drew,P3 _ (by omega),.inr rfl,by
     simp only [choose,Sem.run,Question.forced,Nx,u,if_false,Question.cut]
     rfl⟩
  obtain ⟨j,c,d,m,l⟩:=p
  obtain ⟨y,z⟩:=i L[j] (by simp)
  refine ⟨_,y,L[j],z,c,m, ?_⟩
  have t:c.heap[r]? = some (.mapIter (some o) n seen.toArray n):=by
   rcases m with rfl | rfl<;>exact hr
  simp only [l,Array.getElem?_map,Nu d,Ns,Sem.run_bind,setObj,Sem.run,t,Result.andThen]
  simp [World.putObj]
theorem ZT {v:Value} (h:YO v=true):VRel σ v v:=by
 cases v<;>simp only [YO] at h<;>first
  | (cases h;done)
  | exact .atom rfl
  | skip
 rename_i cs
 rw [N2] at h
 refine VRel.agg_iff.2 ⟨OB.refl_of fun x a=>?_,fun y b=>?_⟩
 ·have:=h x a
  cases x<;>first | exact .atom rfl | (simp at this;done)
 ·have:=h y b
  cases y<;>first | rfl | (simp at this;done)
theorem Inv.push {Pg:Prg} (h:Inv Pg W lim σ H w) {b:Blk} {o:Obj} (ho:owned b=true) (hb:U2 Pg (σ.put H.length ⟨w.heap.size,0,0⟩) (w.alloc o) ⟨w.heap.size,0,0⟩ b):Inv Pg W lim (σ.put H.length ⟨w.heap.size,0,0⟩) (H++[b]) (w.alloc o)/\∀j,(σ.put H.length ⟨w.heap.size,0,0⟩) j≠σ j->none=some j\/H.length<=j:=by
 have n:Inv Pg W lim σ H (w.alloc o):=h.world (by simp) fun b hb=>by rw [Ub,Pc];rw [Ni (by omega)]
 obtain ⟨g,i,q,k,r,s,t⟩:=TB (dest:=none) (b:=b) (H:=H) (show place none b H=(H.length,H++[b]) from rfl) (fun d e=>by cases e)
 refine ⟨n.adopt g i k (h.dom _ (Nd _)) hb ho (h.fresh _ (Nd _)) fun j bj Lj m c f a e=>?_,fun j l=>.inr ?_⟩
 ·obtain ⟨p,h1,h2⟩:=h.blk j bj c f
  rw [a] at h1;cases h1
  have:=h2.lt f
  simp at e
  omega
 ·apply Oi
  intro hc
  refine l ?_
  simp only [PQ.put]
  rw [Ni (by omega)]
theorem Nsl {r:Nat} {o:Obj} (a:W r):Stp W w (w.putObj r o):=
 ⟨rfl,rfl,⟨rfl,.of (Nd _)⟩,by simp,fun b hb=>World.putObj_heap_other fun e=>hb (e▸a)⟩
theorem Inv.putLoop (h:Inv (Prg.mk P pf) W lim σ H w) {i:Nat} {b b':Blk} {L:Loc} (hb:NF H i=b) (ho:owned b=true) (d:σ i=some L) (hl:lim<=i) {o:Obj} (a:U2 (Prg.mk P pf) σ (w.putObj L.blk o) L b') (c:alive b'=true->owned b'=true) :
  Inv (Prg.mk P pf) W lim σ (H.set i b') (w.putObj L.blk o)/\Stp W w (w.putObj L.blk o):=by
 have hi:=RV hb (PT ho)
 exact ⟨h.rewrite hi ho hl d (by simp) (fun k e=>World.putObj_heap_other e) a c,Nsl (h.wr i b L hi ho hl d)⟩
theorem Npa (Y:CallOkS (Prg.mk P pf) C) {o:Oper} {M:AOp} (h:Zh P pureF false o=some M) (A:Inv (Prg.mk P pf) W lim σ H w) (hl:lim<=H.length)
  {ρ:Operand->Value} {a:Act} (hρ:∀x,QB x=true->VRel σ (ρ x) (a.eval x)) {L} (t:WI C lim M ρ H=some L)
  {K:Act->World->Prop} {Q:Exit->Act->World->Prop} (Z:∀r∈L,∀v' w' B,XR (Prg.mk P pf) W lim σ none H w r.1 r.2 v' w' B->K (a.put o.dst v') w'):o.wpIn (WF ro) 0 P a w K Q:=by
 by_cases z:∃mp f args,M=.call mp f args
 ·obtain ⟨mp,f,args,rfl⟩:=z
  have ad:∃c,o.op=.call c/\c.callee=.value f/\args=c.args.toList/\∀x∈o.op.operands,QB x=true:=by
   obtain ⟨dst,op,type,pos,after,guard⟩:=o
   unfold Zh at h
   split at h
   ·cases h
   rename_i S
   simp only [Bool.not_eq_true,Bool.not_eq_false'] at S
   have s:∀x∈op.operands,QB x=true:=fun x t=>Nf0 (o:=⟨dst,op,type,pos,after,guard⟩) (by simpa using S) t
   cases op<;>(try simp only at h)<;>try (cases h;done)
   case call c=>
    refine ⟨c,rfl, ?_⟩
    cases hc:c.callee with
    | value f'=>rw [hc] at h;simp at h;obtain ⟨_,rfl,rfl⟩:=h;exact ⟨rfl,rfl,s⟩
    | invoke r m=>rw [hc] at h;simp at h
    | builtin b=>
      rw [hc] at h
      exfalso
      cases b<;>(try simp only at h)<;>(try (cases h;done))<;>(repeat' (split at h))<;>first
       | (cases h;done)
       | (simp only [Nc] at h;obtain ⟨_,_,h⟩:=h;cases h;done)
       | (exfalso;simp at h;done)
       | (obtain ⟨_,_,h⟩:=NM h;obtain ⟨_,_,h⟩:=NM h;obtain ⟨_,_,h⟩:=NM h;split at h<;>cases h;done)
   all_goals exfalso
   all_goals (repeat' (first | (obtain ⟨_,_,h⟩:=NM h) | split at h))
   all_goals first
    | (cases h;done)
    | (simp only [Nc] at h;obtain ⟨_,_,h⟩:=h;cases h;done)
    | contradiction
  obtain ⟨c,ho,p,rfl,s⟩:=ad
  simp only [WI] at t
  split at t
  case h_2=>cases t
  rename_i g as l
  split at t
  case h_2=>cases t
  rename_i L0 k
  have ae:∀r∈L0,r∈L:=fun r hr=>by
   obtain ⟨y,hy,e⟩:=WV t r hr
   have:=(SN e).1
   cases this
   exact hy
  obtain ⟨J,E⟩:=CM.lim_le mp hl
  have n:=A.up J
  generalize mp.lim lim H=lim' at k J E n
  generalize mp.isPure=ag at k
  have U:∀{ρ'},o.semAt (WF ro).round ρ'=execOp ρ' o:=fun {ρ'}=>Oper.semAt_eq _ _ _ fun c' e=>by rw [ho] at e;cases e
  refine ⟨fun _ _=>trivial, ?_⟩
  rw [U]
  have ac:QB f=true:=s f (by rw [ho];simp [Op.operands,Call.operands,p])
  have D:=hρ f ac
  have u:OB σ (c.args.toList.map ρ) (c.args.map a.eval).toList:=by
   have:(c.args.map a.eval).toList=c.args.toList.map a.eval:=by simp
   rw [this]
   exact UV fun x t=>hρ x (s x (by rw [ho];simp only [Op.operands,Call.operands,p];simp at t⊢;exact .inr t))
  have fin:∀{N:Ending} {w':World} {K':Value->World->Prop},(∃r∈L0,UI (Prg.mk P pf) W lim' σ H r.1 r.2 w N w')->(∀v',N=.returned v'->(∃r∈L,∃B,XR (Prg.mk P pf) W lim σ none H w r.1 r.2 v' w' B)->K' v' w')->∃v',N=.returned v'/\K' v' w':=fun {N w' K'} hp O=>by
   obtain ⟨r,hr,v',B,rfl,q1,q2,q3,q4,q5⟩:=hp
   obtain ⟨g1,g2⟩:=Y.grow _ _ _ _ _ _ k E r hr
   exact ⟨v',rfl,O v' rfl ⟨r,ae r hr,B,q1,A.back q2 q4 g2,q3,q4,fun j hj=>.inr (q5 j hj),g1,g2.weaken J⟩⟩
  unfold NC at l
  split at l
  case h_3=>cases l
  case h_2=>
   rename_i i fi ca hf
   simp only [Option.some.injEq,Prod.mk.injEq] at l
   obtain ⟨rfl,rfl⟩:=l
   rw [hf] at D
   obtain ⟨L1,hL,rfl,rfl,I⟩:=D.yld_left
   simp only [N6,Nb] at k
   obtain ⟨r,h1,h2,X⟩:=Y.rounds _ _ _ _ _ _ k E W σ w _ L1 n u hL
   simp only [Array.toArray_toList] at h2 X
   rw [Na9 (P:=P) ho p I h1 h2,Oper.uponIn_round]
   refine ⟨Yz,MV (X.mono fun N w' hp=>?_)⟩
   obtain ⟨v',rfl,O⟩:=fin (K':=fun v' w'=>K (a.put o.dst v') w') hp fun v' _ ⟨r,hr,B,hn⟩=>Z r hr v' w' B hn
   exact O
  rename_i g' fi ca hf
  simp only [Option.some.injEq,Prod.mk.injEq] at l
  obtain ⟨rfl,rfl⟩:=l
  rw [hf] at D
  obtain ⟨G,F,I,ab,aa⟩:=D.func_left
  obtain ⟨fn,h1,h2,X⟩:=Y.fn _ _ _ _ _ _ k
  have T:=Nba (P:=P) (w:=w) ho p I h1 h2 X
  have q:=Y.calls _ _ _ _ _ _ k E W σ w (G.toList++(c.args.map a.eval).toList++F.toList) n ((ab.append u).append aa)
  have e:(G.toList++(c.args.map a.eval).toList++F.toList).toArray=G++c.args.map a.eval++F:=by
   apply Array.ext';simp
  rw [e] at q
  rw [T,Oper.uponIn_enter]
  refine ⟨Yz,Na7 (q.mono fun N w' hp=>?_)⟩
  obtain ⟨v',rfl,O⟩:=fin (K':=fun v' w'=>K (a.put o.dst v') w') hp fun v' _ ⟨r,hr,B,hn⟩=>Z r hr v' w' B hn
  exact O
 ·have R:∀mp f args,M≠.call mp f args:=fun mp f args e=>z ⟨mp,f,args,e⟩
  have V:(NH lim none M ρ H).map (fun r=>[r])=some L:=by
   cases M<;>first | exact t | exact absurd rfl (R _ _ _)
  simp only [Nc] at V
  obtain ⟨⟨v,H'⟩,hv,rfl⟩:=V
  refine Nk6 (Ng0 (Prg.mk P pf)) (dest:=none) h A hl (fun d e=>by cases e) (fun d e=>by cases e) hρ (v:=v) (H':=H') (by rw [NY R];exact hv) fun v' w' B hn=>Z (v,H') (by simp) v' w' B hn
theorem Nk8 {o:Oper} {x:Operand} {k:Nat} (g:Nsk P o=some (x,k)) (d:Inv (Prg.mk P pf) W lim σ H w) (hl:lim<=H.length)
  {ρ:Operand->Value} {a:Act} (hρ:∀x,QB x=true->VRel σ (ρ x) (a.eval x)) {L} {i:AIns} (am:i.op=.mov x) (an:i.dest=some k) (f:Ug C lim i ρ H=some L)
  {K:Act->World->Prop} {Q:Exit->Act->World->Prop} (hK:∀r∈L,∀v' w' σ',XR (Prg.mk P pf) W lim σ none H w r.1 r.2 v' w' σ'->K (a.put o.dst v') w'):o.wpIn (WF ro) 0 P a w K Q:=by
 obtain ⟨dst,op,type,pos,after,guard⟩:=o
 unfold Nsk at g
 split at g
 ·cases g
 rename_i ag
 simp only [Bool.not_eq_true,Bool.not_eq_false'] at ag
 have E:∀x∈op.operands,QB x=true:=fun x f=>Nf0 (o:=⟨dst,op,type,pos,after,guard⟩) (by simpa using ag) f
 unfold Ug at f
 rw [an,am] at f
 simp only [MM] at f
 have fin:∀{v v':Value} {H1:NB} {w1:World} {σ1:PQ},(v,H1)∈L->(execOp a.eval ⟨dst,op,type,pos,after,guard⟩).run P w=.ok (.value v') w1->XR (Prg.mk P pf) W lim σ none H w v H1 v' w1 σ1->Oper.wpIn (WF ro) 0 P ⟨dst,op,type,pos,after,guard⟩ a w K Q:=fun {v v' H1 w1 σ1} hm hr hn=>by
  have al:∀c,op≠.defer c:=fun c e=>by
   subst e
   simp at g
  refine ⟨fun _ _=>trivial, ?_⟩
  rw [Oper.semAt_eq _ _ _ al,hr,Oper.uponIn_value]
  exact hK _ hm _ _ _ hn
 cases op<;>simp only at g<;>try (cases g;done)
 case range t y=>
  split at g
  case h_2=>cases g
  rename_i kt et I
  cases g
  have J:=hρ x (E x (by simp [Op.operands]))
  simp only at f
  simp only [Nc] at f
  obtain ⟨p,hp,rfl⟩:=f
  unfold VL at hp
  split at hp
  case h_2=>cases hp
  rename_i m es hm h
  cases hp
  rw [hm] at h J
  rcases d.entries J h with ⟨l,rfl⟩ | ⟨r,L,ents,clock,D,hb,hL,l,G,B,u⟩
  ·have aw:m=none:=by
    cases m with
    | none=>rfl
    | some r=>obtain ⟨L,_,h2⟩:=J.map_left;rw [l] at h2;cases h2
   subst aw
   obtain ⟨i1,i2⟩:=d.push (b:=.iter none 0 []) (o:=.mapIter none 0 #[] 0) rfl ⟨rfl,none,rfl,World.alloc_heap_new _ _,fun j q=>by cases q⟩
   refine fin (Ng.2 rfl) (v':=.pointer (some ⟨w.heap.size,0,none⟩)) (by
    simp only [execOp]
    refine OI P w _ ?_
    rw [l]
    exact run_range_nilMap w t kt et I) ⟨by have:=VRel.ptr (σ:=σ.put H.length ⟨w.heap.size,0,0⟩) (k:=0) PQ.put_same;simpa using this,i1,Stp.alloc d.fresh _,PQ.le_put (d.dom _ (Nd _)),i2,by simp,Grow.app hl fun b hb _=>by simp at hb;subst hb;rfl⟩
  ·cases D
   obtain ⟨t1,t2⟩:=d.stamps hb hL G
   have ad:=PQ.le_put (L:=⟨w.heap.size,0,0⟩) (d.dom _ (Nd H.length))
   obtain ⟨i1,i2⟩:=d.push (b:=.iter (some r) es.length []) (o:=.mapIter (some L.blk) clock #[] clock) rfl ⟨rfl,some L.blk,⟨L,ad _ _ hL,rfl⟩,by rw [<-t1];exact World.alloc_heap_new _ _,fun j q=>by cases q⟩
   refine fin (Ng.2 rfl) (v':=.pointer (some ⟨w.heap.size,0,none⟩)) (by
    simp only [execOp]
    refine OI P w _ ?_
    rw [l]
    exact run_range_map w t kt et L.blk ents clock I G) ⟨by have:=VRel.ptr (σ:=σ.put H.length ⟨w.heap.size,0,0⟩) (k:=0) PQ.put_same;simpa using this,i1,Stp.alloc d.fresh _,ad,i2,by simp,Grow.app hl fun b hb _=>by simp at hb;subst hb;rfl⟩
 case next it X8=>
  split at g
  ·cases g
  rename_i hs
  cases g
  have J:=hρ x (E x (by simp [Op.operands]))
  simp only at f
  unfold Nbl at f
  split at f
  case h_2=>cases f
  rename_i r hr
  rw [hr] at J
  obtain ⟨Lr,ab,_,Z⟩:=J.ptr_left
  split at f
  case h_2=>cases f
  rename_i m n seen hb
  split at f
  case isFalse=>cases f
  rename_i ae
  split at f
  case h_2=>cases f
  rename_i es h
  split at f
  case isFalse=>cases f
  rename_i hn
  obtain ⟨L',h1,T⟩:=d.blk r _ (RV hb rfl) rfl
  have N:σ r=some Lr:=ab
  rw [N] at h1;cases h1
  obtain ⟨h0,m',hm,G,ah⟩:=T
  have hp:a.eval x=.pointer (some ⟨Lr.blk,0,none⟩):=by rw [Z,h0];rfl
  have ay:X8=false:=by simpa using hs
  subst ay
  cases m with
  | none=>
    cases hm
    have e0:es=[]:=by simp [mapEntries] at h;exact h
    subst e0
    have au:n=0:=by simpa using hn.symm
    subst au
    have I:WE 0 seen=[]:=rfl
    rw [I] at f
    cases f
    refine fin (Ng.2 rfl) (v':=.tuple #[.bool false]) (by
     simp only [execOp]
     refine OI P w _ ?_
     rw [hp]
     simp only [Instr.next,getObj,Sem.run_bind,Sem.run,G,Result.andThen]
     rfl) ⟨VRel.tuple_iff.2 (OB.cons (.atom rfl) OB.nil),d,Stp.refl _ _,PQ.le_refl _,fun j q=>absurd rfl q,Nd _,Grow.refl _ _⟩
  | some mr=>
    obtain ⟨M,R,rfl⟩:=hm
    have a0:NF H mr=.map es:=by
     simp only [mapEntries] at h
     split at h
     ·rename_i aj;cases h;exact aj
     ·cases h
    rcases d.entries (.map R) h with ⟨l,_⟩ | ⟨r',L1,ents,clock,D,S,z,l,s,B,u⟩
    ·cases l
    cases D
    have O:L1=M:=by rw [z] at R;cases R;rfl
    subst O
    obtain ⟨t1,t2⟩:=d.stamps S z s
    rw [t1,hn] at s
    simp only [Option.isSome_some,if_true] at G
    rcases Nqk (P:=P) (ty:=type) G s t2 (by rw [B,hn]) with ⟨I,F⟩ | ⟨j,q,e,he,w1,aa,F⟩
    ·rw [I] at f
     cases f
     refine fin (Ng.2 rfl) (v':=.tuple #[.bool false]) (by
      simp only [execOp]
      refine OI P w _ ?_
      rw [hp]
      exact F) ⟨VRel.tuple_iff.2 (OB.cons (.atom rfl) OB.nil),d,Stp.refl _ _,PQ.le_refl _,fun j q=>absurd rfl q,Nd _,Grow.refl _ _⟩
    ·have az:YM (fun j=>match es[j]? with
       | some e=>if YO e.1 then some (.tuple #[.bool true,e.1,e.2],H.set r (.iter (some mr) n (seen++[j]))) else none
       | none=>none) (WE n seen)=some L:=by
      cases I:WE n seen with
      | nil=>rw [I] at q;cases q
      | cons j0 l0=>rw [I] at f;exact f
     obtain ⟨y,hy,ey⟩:=WV az j q
     have ao:j<n:=by
      unfold WE at q
      exact List.mem_range.1 (Oo.1 q).1
     have A:j<es.length:=by omega
     rw [Nf A] at ey
     simp only at ey
     split at ey
     case isFalse=>cases ey
     rename_i X
     cases ey
     obtain ⟨k1,k2⟩:=u j es[j] e (Nf A) he
     have V:Inv (Prg.mk P pf) W lim σ H w1:=by rcases aa with rfl | rfl;exact d;exact d.drew
     have ai:Stp W w w1:=by rcases aa with rfl | rfl;exact Stp.refl _ _;exact Stp.drew
     have aq:Lr.blk<w1.heap.size:=by
      have:=(Array.getElem?_eq_some_iff.1 G).1
      rcases aa with rfl | rfl<;>exact this
     obtain ⟨i1,i2⟩:=V.putLoop (o:=.mapIter (some L1.blk) n (seen++[j]).toArray n) (b':=.iter (some mr) n (seen++[j])) hb rfl ab ae
      ⟨h0,some L1.blk,⟨L1,z,rfl⟩,by simpa using World.putObj_heap_same aq,fun i hi=>by
       rcases Ob.1 hi with hi | hi
       ·exact ah i hi
       ·rw [Ng] at hi;subst hi;exact ao⟩ (fun _=>rfl)
     refine fin hy (v':=.tuple #[.bool true,e.key,e.val]) (by
      simp only [execOp]
      refine OI P w _ ?_
      rw [hp]
      exact F) ⟨VRel.tuple_iff.2 (OB.cons (.atom rfl) (OB.cons (by rw [<-k1];exact ZT X) (OB.cons k2 OB.nil))),i1,ai.trans i2,PQ.le_refl _,fun j q=>absurd rfl q,by simp,Grow.set ae fun _=>rfl⟩
 case entry it=>
  cases g
  have J:=hρ x (E x (by simp [Op.operands]))
  simp only at f
  simp only [Nc] at f
  obtain ⟨p,hp,rfl⟩:=f
  unfold Nbm at hp
  split at hp
  case h_2=>cases hp
  rename_i r hr
  rw [hr] at J
  obtain ⟨L,hL,_,Z⟩:=J.ptr_left
  split at hp
  case h_2=>cases hp
  rename_i mr n seen hb
  split at hp
  case h_2=>cases hp
  rename_i es j h Y
  split at hp
  case isFalse=>cases hp
  rename_i hn
  split at hp
  case h_2=>cases hp
  rename_i e0 ac
  split at hp
  case isFalse=>cases hp
  rename_i X
  cases hp
  obtain ⟨L',h1,T⟩:=d.blk r _ (RV hb rfl) rfl
  have N:σ r=some L:=hL
  rw [N] at h1;cases h1
  obtain ⟨h0,m',⟨M,R,rfl⟩,G,ah⟩:=T
  have ax:a.eval x=.pointer (some ⟨L.blk,0,none⟩):=by rw [Z,h0];rfl
  rcases d.entries (.map R) h with ⟨l,_⟩ | ⟨r',L1,ents,clock,D,S,z,l,s,B,u⟩
  ·cases l
  cases D
  have O:L1=M:=by rw [z] at R;cases R;rfl
  subst O
  obtain ⟨t1,t2⟩:=d.stamps S z s
  rw [t1,hn] at s
  simp only [Option.isSome_some,if_true] at G
  have a2:j<es.length:=(List.getElem?_eq_some_iff.1 ac).1
  have A:j<ents.size:=by omega
  obtain ⟨k1,k2⟩:=u j e0 ents[j] ac (by simp [A])
  obtain ⟨s0,rfl⟩:∃s0,seen=s0++[j]:=by
   exact List.getLast?_eq_some_iff.1 Y
  have U:ents.find? (·.born == j)=some ents[j]:=by
   rw [<-Array.find?_toList]
   have av:(ents.toList.map (·.born)).Nodup:=by
    have:ents.toList.map (·.born)=List.range ents.size:=by
     apply O4 (by simp)
     intro i h1 h2
     simp at h1 h2
     simp
     exact t2 i ents[i] (by simp)
    rw [this];exact List.nodup_range
   have:=find_born ents[j] ents.toList av (by simp)
   rw [t2 j ents[j] (by simp [A])] at this
   exact this
  refine fin (Ng.2 rfl) (v':=.tuple #[ents[j].key,ents[j].val]) (by
   simp only [execOp]
   refine OI P w _ ?_
   rw [ax]
   have ak:(s0++[j]).toArray.back? = some j:=by simp
   simp only [Instr.entry,getObj,Sem.run_bind,Sem.run,G,s,ak,Result.andThen,bne_self_eq_false,No,if_false,U]
   rfl) ⟨VRel.tuple_iff.2 (OB.cons (by rw [<-k1];exact ZT X) (OB.cons k2 OB.nil)),d,Stp.refl _ _,PQ.le_refl _,fun j q=>absurd rfl q,Nd _,Grow.refl _ _⟩
theorem Ntl (E:CallOkS (Prg.mk P pf) C) {ops:Array Oper} {j:Nat} {o:Oper} (z:ops[j]? = some o) {i:AIns} (c:WH P pureF ops o=some i) {N:Nat} {fr:Nat->Value} {a:Act} (l:State (Prg.mk P pf) ds W lim σ N fr H a w)
  {L} (h:Yg C N lim i fr H=some L) {K:Act->World->Prop} {Q:Exit->Act->World->Prop} (B:∀r∈L,∀q a' w',State (Prg.mk P pf) ds W lim q N r.1 r.2 a' w'->Stp W w w'->PQ.le σ q->Grow lim H r.2->(∀j,q j≠σ j->H.length<=j)->H.length<=r.2.length->K a' w'):wpOpIn (WF ro) 0 P ops Q j K a w:=by
 have e:(∃s,Zh P pureF false o=some s/\i.op=s/\i.dest=none\/∃x k,Nsk P o=some (x,k)/\i.op=.mov x/\i.dest=some k)/\i.dst=o.dst/\Y3 ops o.guard=some i.guard:=by
  unfold WH at c
  split at c
  ·rename_i S m
   cases c
   obtain ⟨s,d,m⟩:=NM m
   obtain ⟨g,v,m⟩:=NM m
   cases m
   exact ⟨⟨s,.inl ⟨d,rfl,rfl⟩⟩,rfl,v⟩
  ·obtain ⟨⟨x,k⟩,d,c⟩:=NM c
   obtain ⟨g,v,c⟩:=NM c
   cases c
   exact ⟨⟨default,.inr ⟨x,k,d,rfl,rfl⟩⟩,rfl,v⟩
 obtain ⟨e,p,v⟩:=e
 unfold wpOpIn
 rw [z]
 simp only
 unfold Yg at h
 cases hw:RF N fr i.guard with
 | none=>rw [hw] at h;cases h
 | some b=>
 rw [l.fr.wanted v hw]
 rw [hw] at h
 cases b with
 | false=>
   simp only [No,if_false]
   simp only [Nc] at h
   obtain ⟨f,u,rfl⟩:=h
   rw [p] at u
   exact ⟨fun _ _=>trivial,B _ (Ng.2 rfl) σ _ w ⟨l.fr.put (.atom rfl) u,l.inv,l.lim⟩ (Stp.refl _ _) (PQ.le_refl _) (Grow.refl _ _) (fun j z=>absurd rfl z) (Nd _)⟩
 | true=>
   simp only [if_true]
   simp only at h
   split at h
   case h_2=>cases h
   rename_i L0 n
   have go:∀r∈L0,∀v' w' q,XR (Prg.mk P pf) W lim σ none H w r.1 r.2 v' w' q->K (a.put o.dst v') w':=fun r hr v' w' q hn=>by
    obtain ⟨y,F,A⟩:=WV h r hr
    simp only [Nc] at A
    obtain ⟨f,u,rfl⟩:=A
    rw [p] at u
    obtain ⟨G,I,J,D,M,O,R⟩:=hn
    exact B _ F q _ w' ⟨(l.fr.mono D).put G u,I,by have:=l.lim;simp only;omega⟩ J D R (fun j z=>(M j z).resolve_left (by simp)) O
   obtain ⟨s,⟨d,h1,h2⟩ | ⟨x,k,d,h1,h2⟩⟩:=e
   ·have t:WI C lim s (ev fr) H=some L0:=by
     unfold Ug at n
     rw [h2,h1] at n
     exact n
    exact Npa E d l.inv l.lim (fun x h=>l.fr.ev h) t go
   ·exact Nk8 d l.inv l.lim (fun x h=>l.fr.ev h) h1 h2 n go
theorem XJ (o:CallOkS (Prg.mk P pf) C) {ops:Array Oper} {N:Nat} {Q:Exit->Act->World->Prop} (W:Nat->Prop) (lim:Nat) (d:PQ) (H0:NB) (w0:World) {l:List AIns} (hl:ops.toList.mapM (WH P pureF ops)=some l) :
  ∀(m s:Nat) (fr:Nat->Value) (H:NB) (a:Act) (w:World) (σ:PQ) (i:List ((Nat->Value)×NB)),
   (∀r∈i,∀a w σ,State (Prg.mk P pf) ds W lim σ N r.1 r.2 a w->Stp W w0 w->PQ.le d σ->Grow lim H0 r.2->(∀j,σ j≠d j->H0.length<=j)->H0.length<=r.2.length->Q .normal a w)->
   s+m=ops.size->State (Prg.mk P pf) ds W lim σ N fr H a w->Stp W w0 w->PQ.le d σ->Grow lim H0 H->(∀j,σ j≠d j->H0.length<=j)->H0.length<=H.length->
   Wz C N lim (l.drop s) fr H=some i->wpOpsIn (WF ro) 0 P ops Q (List.range' s m) a w
 | 0,s,fr,H,a,w,σ,i,hQ,hs,hst,h1,h2,h3,h4,h5,c=>by
   have b:=(YL hl).1
   have:l.drop s=[]:=by
    apply Pv
    rw [b];simp;omega
   rw [this] at c
   simp [Wz] at c
   subst c
   simp only [List.range'_zero,wpOpsIn]
   exact hQ (fr,H) (by simp) a w σ hst h1 h2 h3 h4 h5
 | m+1,s,fr,H,a,w,σ,i,hQ,hs,hst,h1,h2,h3,h4,h5,c=>by
   obtain ⟨b,NF⟩:=YL hl
   have f:s<l.length:=by rw [b];simp;omega
   have g:s<ops.size:=by omega
   rw [Pa f] at c
   simp only [Wz] at c
   split at c
   case h_2=>cases c
   rename_i L q
   have n:=NF s ops[s] l[s] (by simp [g]) (by simp [f])
   rw [List.range'_succ,wpOpsIn_cons]
   refine Ntl o (by simp [g]) n hst q fun r hr B a' w' u v y z A D=>?_
   obtain ⟨p,k,h⟩:=U0 c r hr
   exact XJ o W lim d H0 w0 hl m (s+1) r.1 r.2 a' w' B p (fun x c=>hQ x (h x c)) (by omega) u (h1.trans v) (PQ.le_trans h2 y) (h3.trans z)
    (fun j t=>by
     apply Po
     intro hc
     have e1:σ j=d j:=Oi fun e=>hc (h4 j e)
     have:=A j (fun e=>t (e.trans e1))
     omega) (by omega) k
end
end Go.AM


namespace Go.AM
open Go.RowKit
structure EnvOk (P:Program) (E:Env):Prop where
 tr:∀g af,E.tr g=some af->NT P E.pure g=some af
 orcFn:∀g as v,E.orc g as=some v->∃fn,P.funcs[g]? = some fn/\fn.body.isSome=true/\(fn.name == "runtime.NumGoroutine")=false
 orc:∀g as v,E.orc g as=some v->∀w,Nol (Prg.mk P (Env.pure E)) w->Calls P g as.toArray w fun e w'=>e=.returned v/\Below w.heap.size w w'/\Drw w.drawn w'.drawn
 orcFlat:∀g as v,E.orc g as=some v->∀σ,VRel σ v v
 mixed:P.follows .mixedOrders=true
 effFn:∀g as H r,E.eff g as H=some r->∃fn,P.funcs[g]? = some fn/\fn.body.isSome=true/\(fn.name == "runtime.NumGoroutine")=false
 eff:∀g as H r,E.eff g as H=some r->∀lim,lim<=H.length->Ncm lim H r.2.2=true->∀W σ w as',Inv (Prg.mk P (Env.pure E)) W lim σ H w->OB σ as as'->Calls P g as'.toArray w (UI (Prg.mk P (Env.pure E)) W lim σ H r.1 (Nji H r.2) w)
theorem VRel.eq_of_atom {σ:PQ} {v v':Value} (h:VRel σ v v') (a:AM.atom v=true):v'=v:=by
 cases h with
 | atom _=>rfl
 | func h1 h2 k1 k2=>
   simp [AM.atom] at a
   obtain ⟨rfl,rfl⟩:=a
   simp at h1 h2
   rw [Array.size_eq_zero_iff.1 h1.symm,Array.size_eq_zero_iff.1 h2.symm]
 | tuple h k=>
   simp [AM.atom] at a
   subst a
   rw [Array.size_eq_zero_iff.1 h.symm]
 | _=>simp [AM.atom] at a
theorem YK {n:Nat} (d:Nat) {v:Value} (h:AM.atom v=true):olds n d v=true:=by
 cases v with
 | pointer o=>
   cases o with
   | none=>cases d<;>rfl
   | some a=>simp [AM.atom] at h
 | map o=>
   cases o with
   | none=>cases d<;>rfl
   | some a=>simp [AM.atom] at h
 | slice o a b=>
   cases o with
   | none=>cases d<;>exact h
   | some a=>simp [AM.atom] at h
 | agg cs=>simp [AM.atom] at h
 | tuple cs=>
   have:cs=#[]:=by simpa [AM.atom] using h
   subst this
   cases d<;>rfl
 | _=>cases d<;>exact h
theorem VW {n:Nat}:∀(d:Nat) {v:Value},flat d v=true->olds n d v=true
 | 0,v,h=>YK 0 (by cases v<;>simpa [flat] using h)
 | d+1,v,h=>by
   cases v with
   | agg cs=>simp only [flat,olds,N2] at h⊢;exact fun x a=>VW d (h x a)
   | tuple cs=>simp only [flat,olds,N2] at h⊢;exact fun x a=>VW d (h x a)
   | _=>exact YK _ (by simpa [flat] using h)
theorem VRel.olds {σ τ:PQ} {n:Nat} (a:∀i L,i<n->σ i=some L->τ i=some L):∀(d:Nat) {v v':Value},VRel σ v v'->olds n d v=true->VRel τ v v'
 | 0,v,v',h,hf=>by
   cases h with
   | atom h=>exact .atom h
   | ptr h=>exact .ptr (a _ _ (by simpa [AM.olds] using hf) h)
   | slice h hc=>exact .slice (a _ _ (by simpa [AM.olds] using hf) h) hc
   | lslice h hn hr=>exact .lslice (a _ _ (by simpa [AM.olds] using hf) h) hn hr
   | eslice h hc=>exact .eslice (a _ _ (by simpa [AM.olds] using hf) h) hc
   | map h=>exact .map (a _ _ (by simpa [AM.olds] using hf) h)
   | err=>exact .err
   | func h1 h2 k1 k2=>
     rw [(VRel.func h1 h2 k1 k2).eq_of_atom (by simpa [AM.olds] using hf)]
     exact .atom (by simpa [AM.olds] using hf)
   | yld h=>simp [AM.olds,AM.atom] at hf
   | agg h k o=>simp [AM.olds,AM.atom] at hf
   | @tuple xs ys h k=>
     have b:AM.atom (.tuple xs)=true:=by simpa [AM.olds] using hf
     rw [(VRel.tuple h k).eq_of_atom b]
     exact .atom b
 | d+1,v,v',h,hf=>by
   cases h with
   | agg h k o=>
     simp only [AM.olds,N2] at hf
     exact .agg h (fun i h1 h2=>VRel.olds a d (k i h1 h2) (hf _ (by simp))) o
   | tuple h k=>
     simp only [AM.olds,N2] at hf
     exact .tuple h (fun i h1 h2=>VRel.olds a d (k i h1 h2) (hf _ (by simp)))
   | atom h=>exact .atom h
   | ptr h=>exact .ptr (a _ _ (by simpa [AM.olds] using hf) h)
   | slice h hc=>exact .slice (a _ _ (by simpa [AM.olds] using hf) h) hc
   | lslice h hn hr=>exact .lslice (a _ _ (by simpa [AM.olds] using hf) h) hn hr
   | eslice h hc=>exact .eslice (a _ _ (by simpa [AM.olds] using hf) h) hc
   | map h=>exact .map (a _ _ (by simpa [AM.olds] using hf) h)
   | err=>exact .err
   | func h1 h2 k1 k2=>
     rw [(VRel.func h1 h2 k1 k2).eq_of_atom (by simpa [AM.olds] using hf)]
     exact .atom (by simpa [AM.olds] using hf)
   | yld h=>simp [AM.olds,AM.atom] at hf
section
variable {P:Program} {pf:FuncId->Bool} {W:Nat->Prop} {lim:Nat} {σ:PQ} {H H':NB} {w:World} {ds:List Deferred}
inductive Md where
 | n | m | r (i:Nat)
def trX (P:Program) (pf:FuncId->Bool):Md->Code->Option ACode
 | .n=>VN P pf
 | .m=>TP P pf
 | .r _=>Ti P pf
inductive XC (P:Program) (pf:FuncId->Bool):Md->Code->ACode->Prop
 | skip {md}:XC P pf md .skip .skip
 | plain {md id ops l} (h:ops.toList.mapM (WH P pf ops)=some l):XC P pf md (.region id ops false) (.ops l)
 | drawn {md id ops n L} (h:UR P pf ops=some (.drawn n L)):XC P pf md (.region id ops true) (.drawn n L)
 | seq {md a b a' b'} (h:trX P pf md a=some a') (k:trX P pf md b=some b'):XC P pf md (.seq a b) (.seq a' b')
 | cond {md c a b a' b'} (ho:QB c=true) (h:trX P pf md a=some a') (k:trX P pf md b=some b'):XC P pf md (.cond c a b) (.cond c a' b')
 | block {md id a a'} (h:trX P pf md a=some a'):XC P pf md (.block id a) (.block id a')
 | loop {md a a'} (h:trX P pf md a=some a'):XC P pf md (.loop a) (.loop a')
 | exit {md id} (h:∀i,md≠.r i):XC P pf md (.exit id) (.exit id)
 | exitR {i id}:XC P pf (.r i) (.exit id) (.exitR id)
 | ret:XC P pf .n .ret .ret
 | retM:XC P pf .m .ret .retM
 | retR {i}:XC P pf (.r i) .ret .retR
 | rangeF {f ps a b a' b'} (ho:QB f=true) (h:Ti P pf a=some a') (k:Ti P pf b=some b'):XC P pf .m (.rangeFunc f ps a b) (.rangeF f ps.toList a' b')
theorem Nbz {ops:Array Oper} {c:ACode} (h:UR P pf ops=some c):∃n L,c=.drawn n L:=by
 obtain ⟨st,h⟩:∃st,VC P pf st ops=some c:=by
  unfold UR at h
  split at h
  ·rename_i hc;cases h;exact ⟨_,hc⟩
  ·exact ⟨_,h⟩
 unfold VC at h
 obtain ⟨l,hl,h⟩:=NM h
 simp only at h
 repeat' (split at h)
 all_goals first
  | (cases h;done)
  | (cases h;exact ⟨_,_,rfl⟩)
theorem Nk2 {md:Md} {C:Code} {c:ACode} (h:trX P pf md C=some c):XC P pf md C c:=by
 cases md<;>cases C<;>simp only [trX,VN,TP,Ti] at h<;>try (cases h;done)
 all_goals first
  | (cases h;first | exact .skip | exact .exit (by intros;nofun) | exact .exitR | exact .ret | exact .retM | exact .retR;done)
  | (rename_i id ops d
     cases d with
     | false=>simp only [No,if_false] at h;obtain ⟨l,hl,h⟩:=NM h;cases h;exact .plain hl
     | true=>simp only [if_true] at h;obtain ⟨n,L,rfl⟩:=Nbz h;exact .drawn h
     done)
  | (obtain ⟨f,a,h⟩:=NM h;obtain ⟨g,b,h⟩:=NM h;cases h;exact .seq a b;done)
  | (obtain ⟨f,a,h⟩:=NM h;cases h;first | exact .block a | exact .loop a;done)
  | (split at h
     case isFalse=>cases h
     rename_i e
     obtain ⟨f,a,h⟩:=NM h;obtain ⟨g,b,h⟩:=NM h;cases h;first | exact .cond e a b | exact .rangeF e a b
     done)
inductive KRel (P:Program) (pf:FuncId->Bool):Md->List Nat->List AItem->List Item->Prop
 | nilN:KRel P pf .n [] [] []
 | nilM {ms:List Nat}:KRel P pf .m ms (.code .retM::ms.map .mark) []
 | nilR {i:Nat}:KRel P pf (.r i) [] [.round i] []
 | code {md ms c C k K} (h:trX P pf md C=some c) (t:KRel P pf md ms k K):KRel P pf md ms (.code c::k) (.code C::K)
 | inBlock {md ms id k K} (t:KRel P pf md ms k K):KRel P pf md ms (.inBlock id::k) (.inBlock id::K)
 | inLoop {md ms c C k K} (h:trX P pf md C=some c) (t:KRel P pf md ms k K):KRel P pf md ms (.inLoop c::k) (.inLoop C::K)
 | begin {i ms k K} (t:KRel P pf (.r i) ms k K):KRel P pf (.r i) ms (.begin i::k) (.beginRound::K)
theorem Mm {id:Nat}:∀(ms:List Nat),R9 id (ms.map .mark)=none
 | []=>rfl
 | i::ms=>by simp only [Of,R9];exact Mm ms
theorem KRel.exit {md:Md} {ms:List Nat} {id:Nat} {k k':List AItem} {K:List Item} (h:KRel P pf md ms k K) (he:R9 id k=some k'):∃K',exitTo id K=some K'/\KRel P pf md ms k' K':=by
 induction h with
 | nilN=>simp [R9] at he
 | nilM=>simp only [R9,Mm] at he;cases he
 | nilR=>simp [R9] at he
 | code h t ih=>simp only [R9] at he;simp only [exitTo];exact ih he
 | inLoop h t ih=>simp only [R9] at he;simp only [exitTo];exact ih he
 | begin t ih=>simp only [R9] at he;simp only [exitTo];exact ih he
 | inBlock t ih=>
   simp only [R9] at he
   simp only [exitTo,beq_iff_eq]
   split at he
   ·rename_i e;rw [Nk e];cases he;exact ⟨_,rfl,t⟩
   ·rename_i e;rw [Ni e];exact ih he
theorem KRel.noExit {md:Md} {ms:List Nat} {id:Nat} {k:List AItem} {K:List Item} (h:KRel P pf md ms k K) (he:R9 id k=none):exitTo id K=none:=by
 induction h with
 | nilN=>rfl
 | nilM=>rfl
 | nilR=>rfl
 | code h t ih=>simp only [R9] at he;simp only [exitTo];exact ih he
 | inLoop h t ih=>simp only [R9] at he;simp only [exitTo];exact ih he
 | begin t ih=>simp only [R9] at he;simp only [exitTo];exact ih he
 | inBlock t ih=>
   simp only [R9] at he
   simp only [exitTo,beq_iff_eq]
   split at he
   ·cases he
   ·rename_i e;rw [Ni e];exact ih he
theorem KRel.roundOf {i:Nat} {ms:List Nat} {k:List AItem} {K:List Item} (h:KRel P pf (.r i) ms k K):roundOf k=some i:=by
 generalize a:Md.r i=md at h
 induction h with
 | nilN=>cases a
 | nilM=>cases a
 | nilR=>cases a;rfl
 | code h t ih=>simp only [AM.roundOf];exact ih a
 | inLoop h t ih=>simp only [AM.roundOf];exact ih a
 | begin t ih=>simp only [AM.roundOf];exact ih a
 | inBlock t ih=>simp only [AM.roundOf];exact ih a
theorem Zt:∀(ms:List Nat),marks (ms.map .mark)=ms.reverse
 | []=>rfl
 | i::ms=>by simp only [Of,marks,Zt ms,List.reverse_cons]
theorem KRel.marks {ms:List Nat} {k:List AItem} {K:List Item} (h:KRel P pf .m ms k K):marks k=ms.reverse:=by
 generalize a:Md.m=md at h
 induction h with
 | nilN=>cases a
 | nilM=>simp only [AM.marks];exact Zt _
 | nilR=>cases a
 | code h t ih=>simp only [AM.marks];exact ih a
 | inLoop h t ih=>simp only [AM.marks];exact ih a
 | begin t ih=>cases a
 | inBlock t ih=>simp only [AM.marks];exact ih a
theorem KRel.addMark {ms:List Nat} {k:List AItem} {K:List Item} (h:KRel P pf .m ms k K) (i:Nat):KRel P pf .m (ms++[i]) (k++[.mark i]) K:=by
 generalize a:Md.m=md at h
 induction h with
 | nilN=>cases a
 | @nilM ms=>have:(KRel P pf .m (ms++[i]) (.code .retM::(ms++[i]).map .mark) []):=.nilM
             simpa using this
 | nilR=>cases a
 | code h t ih=>subst a;exact .code h (ih rfl)
 | inLoop h t ih=>subst a;exact .inLoop h (ih rfl)
 | begin t ih=>cases a
 | inBlock t ih=>subst a;exact .inBlock (ih rfl)
def Nbv (lim:Nat) (σ:PQ):List Nat->List Deferred->Prop
 | [],ds=>ds=[]
 | i::l,ds=>∃L a,lim<=i/\σ i=some L/\ds={ target:=.collected L.blk,args:=#[] }::a/\Nbv lim σ l a
theorem Nbv.mono {lim:Nat} {σ τ:PQ} (a:PQ.le σ τ):∀{l:List Nat} {ds:List Deferred},Nbv lim σ l ds->Nbv lim τ l ds
 | [],_,h=>h
 | i::l,_,⟨L,ds',h0,h1,h2,h3⟩=>⟨L,ds',h0,a _ _ h1,h2,Nbv.mono a h3⟩
theorem Inv.pad (h:Inv (Prg.mk P pf) W lim σ H w) (n:Nat):Inv (Prg.mk P pf) W lim σ (H++List.replicate n .dead) w:=by
 have get:∀(j:Nat) b,(H++List.replicate n Blk.dead)[j]? = some b->alive b=true->H[j]? = some b:=fun j b hb a=>by
  by_cases c:j<H.length
  ·rw [Ny c] at hb;exact hb
  ·rw [N0 (by omega),Qv] at hb
   split at hb
   ·cases hb;simp [alive] at a
   ·cases hb
 exact ⟨h.toRoot,fun i b hb a=>h.blk i b (get i b hb a) a,fun i j bi bj Li Lj hi c d ho a=>h.inj i j bi bj Li Lj (get i bi hi (PT ho)) (get j bj c a) d ho a,
  fun i b L hb ho=>h.wr i b L (get i b hb (PT ho)) ho,fun i hi=>h.dom i (by simp at hi;omega)⟩
theorem Ndp {fr:Nat->Value} {N:Nat} {a:Act} (g:State (Prg.mk P pf) ds W lim σ N fr H a w) {r:ResultVar} {ar:ARes} (d:Y2 P r=some ar) {v:Value} (e:NE fr H ar=some v) :
  ∃v',(match r with | .tmp t=>pure (a.tmps.getD t undef) | .cell b t=>do loadVar t (<-asAddr (a.tmps.getD b undef)):Sem Value).run P w=.ok v' w/\VRel σ v v':=by
 cases r with
 | tmp t=>
   simp only [Y2] at d;cases d
   simp only [NE] at e;cases e
   exact ⟨_,rfl,g.fr.val t⟩
 | cell b t=>
   simp only [Y2] at d
   obtain ⟨n,hn,d⟩:=NM d
   obtain ⟨l,f,d⟩:=NM d
   have hb:=g.fr.val b
   cases l with
   | true=>
     simp at d;subst d
     simp only [NE] at e
     split at e
     case h_2=>cases e
     rename_i p hp
     simp only [Nc] at e
     obtain ⟨c,hc,rfl⟩:=e
     rw [hp] at hb
     obtain ⟨L,j,k,h2⟩:=hb.ptr_left
     obtain ⟨v',h,i⟩:=ZO (P:=P) g.inv f hn j hc
     exact ⟨v',by simp only [h2];simp [asAddr,h],i⟩
   | false=>
     simp at d;subst d
     simp only [NE] at e
     split at e
     case h_2=>cases e
     rename_i p hp
     rw [hp] at hb
     obtain ⟨L,j,k,h2⟩:=hb.ptr_left
     obtain ⟨v',h,i⟩:=ZP (P:=P) g.inv f j e
     exact ⟨v',by simp only [h2];simp [asAddr,h],i⟩
theorem Y9 {fr:Nat->Value} {N:Nat} {a:Act} (g:State (Prg.mk P pf) ds W lim σ N fr H a w):∀{f:List ResultVar} {c:List ARes} {vs:List Value},f.mapM (Y2 P)=some c->Us fr H c=some vs->
  ∃d,(f.mapM (fun r=>(match r with | .tmp t=>pure (a.tmps.getD t undef) | .cell b t=>do loadVar t (<-asAddr (a.tmps.getD b undef)):Sem Value))).run P w=.ok d w/\OB σ vs d
 | [],c,vs,h,hv=>by
   simp at h;subst h
   simp [Us] at hv;subst hv
   exact ⟨[],by simp,OB.nil⟩
 | r::f,c,vs,h,hv=>by
   rw [List.mapM_cons] at h
   obtain ⟨b,hb,h⟩:=NM h
   obtain ⟨r',e,h⟩:=NM h
   cases h
   simp only [Us] at hv
   split at hv
   case h_2=>cases hv
   rename_i v j h1 h2
   cases hv
   obtain ⟨v',k1,k2⟩:=Ndp g hb h1
   obtain ⟨d,k3,i⟩:=Y9 g e h2
   refine ⟨v'::d, ?_,OB.cons k2 i⟩
   rw [List.mapM_cons]
   simp only [Sem.run_bind,k1,k3,Result.andThen_ok,Sem.run_pure]
theorem XH {fr:Nat->Value} {N:Nat} {a:Act} (e:State (Prg.mk P pf) ds W lim σ N fr H a w) {fn:Func} {d:List ARes} (f:fn.results.toList.mapM (Y2 P)=some d) {v:Value} (c:result fr H d=some v) :
  ∃v',(results fn a.tmps).run P w=.ok v' w/\VRel σ v v':=by
 unfold result at c
 cases hr:Us fr H d with
 | none=>rw [hr] at c;cases c
 | some vs=>
   obtain ⟨b,k1,k2⟩:=Y9 e f hr
   rw [hr] at c
   unfold results
   rw [Array.mapM_eq_mapM_toList]
   simp only [Sem.run_bind,Sem.run_map]
   erw [k1]
   simp only [Result.andThen_ok,Sem.run_pure]
   refine ⟨_,rfl, ?_⟩
   match vs,b,k2 with
   | [],b,k2=>
     have:b=[]:=by have:=k2.1;simp at this;exact List.length_eq_zero_iff.1 this.symm
     subst this
     simp at c;subst c
     exact .atom rfl
   | [x],b,k2=>
     have hl:=k2.1
     match b,hl,k2 with
     | [y],_,k2=>simp at c;subst c;exact k2.head
   | x::y::zs,b,k2=>
     have hl:=k2.1
     match b,hl,k2 with
     | x'::y'::zs',_,k2=>
       simp at c;subst c
       have:¬((x'::y'::zs').toArray.size=1):=by simp
       rw [dif_neg this]
       exact VRel.tuple_iff.2 k2
theorem Inv.loop (h:Inv (Prg.mk P pf) W lim σ H w) {i:Nat} {x:LoopB} {L:Loc} (hb:NF H i=.loop x) (a:σ i=some L):∃lp,w.heap[L.blk]? = some (.loop lp)/\LoopRel (Prg.mk P pf) σ x lp:=by
 obtain ⟨b,h1,h2⟩:=h.blk i _ (RV hb rfl) rfl
 rw [a] at h1;cases h1
 exact h2
theorem MP {b:Frame} {a:Act} {todo:List Item} {cs:List Frame}:∀(l:List Nat) (ds:List Deferred) {H H':NB} {w:World},Nbv lim σ l ds->Inv (Prg.mk P pf) W lim σ H w->shut lim l H=some H'->
  ∃w',Steps P (lone { b.atR { a with defers:=ds } todo with mode:=.returning } cs w) (lone { b.atR { a with defers:=[] } todo with mode:=.returning } cs w')/\Inv (Prg.mk P pf) W lim σ H' w'/\Stp W w w'/\H'.length=H.length
 | [],ds,H,H',w,hd,hi,hs=>by
   cases hd;cases hs
   exact ⟨w,.refl _ _,hi,Stp.refl _ _,rfl⟩
 | i::l,ds,H,H',w,hd,hi,hs=>by
   obtain ⟨L,c,h0,h1,rfl,f⟩:=hd
   simp only [shut] at hs
   split at hs
   case h_2=>cases hs
   rename_i hb
   rw [Nk h0] at hs
   obtain ⟨m,d,e⟩:=hi.blk i _ (RV hb rfl) rfl
   rw [h1] at d;cases d
   obtain ⟨g,j⟩:=hi.putLoop (o:=.deferred none) (b':=.dead) hb rfl h1 h0 trivial (fun h=>by simp [alive] at h)
   obtain ⟨w',k1,k2,k3,k⟩:=MP l c f g hs
   refine ⟨w',Steps.head (step_collected (fr:={ b.atR { a with defers:=_::c } todo with mode:=.returning }) (by simp) rfl rfl (run_takeDeferred e)) k1,k2,j.trans k3,by simpa using k⟩
theorem Na1 (h:Inv (Prg.mk P pf) W lim σ H w) {i:Nat} {L:Loc} (e:σ i=some L) (hl:lim<=i) {j:Option ACode} {J:Option Code}
  (a:match j with | none=>J=none | some c=>∃C,J=some C/\TP P pf C=some c) {v:Value} (he:endRound i j H=some (v,H')) :
  ∃w',(Instr.endRound L.blk J).run P w=.ok v w'/\VRel σ v v/\Inv (Prg.mk P pf) W lim σ H' w'/\Stp W w w':=by
 unfold endRound at he
 split at he
 case h_2=>cases he
 rename_i x hb
 obtain ⟨lp,h1,h2⟩:=h.loop hb e
 have d:J.isNone=j.isNone:=by
  cases j with
  | none=>simp only at a;subst a;rfl
  | some c=>obtain ⟨C,rfl,_⟩:=a;rfl
 have b:L.blk<w.heap.size:=(Array.getElem?_eq_some_iff.1 h1).1
 simp only [Option.some.injEq,Prod.mk.injEq] at he
 obtain ⟨rfl,rfl⟩:=he
 obtain ⟨f,g⟩:=h.putLoop (o:=.loop { lp with state:=if J.isNone then .ready else .done,pending:=J }) (b':=.loop { x with st:=if j.isNone then 0 else 2,pend:=j }) hb rfl e hl
  ⟨_,World.putObj_heap_same b,by rw [d];cases j<;>rfl,a,h2.size,h2.val,h2.params,h2.assign,h2.body⟩ (fun _=>rfl)
 exact ⟨_,by rw [run_endRound J h1,d],.atom rfl,f,g⟩
end
section
variable {P:Program} {E:Env} {W:Nat->Prop} {lim:Nat} {σ:PQ} {H H':NB} {w:World} {ds:List Deferred} {ro:Option Nat}
theorem Ndq {C:Tf} (b:CallOkS (Prg.mk P (Env.pure E)) C) {pf:FuncId->Bool} {id:Nat} {ops:Array Oper} {l:List AIns} (hl:ops.toList.mapM (WH P pf ops)=some l) {N:Nat} {fr:Nat->Value} {a:Act}
  (d:State (Prg.mk P (Env.pure E)) ds W lim σ N fr H a w) {LL} (f:Wz C N lim l fr H=some LL):(Code.region id ops false).wpIn (WF ro) 0 P (fun e a' w'=>∃r∈LL,Nuh (Prg.mk P (Env.pure E)) ds W lim σ N r.1 H r.2 w e a' w') a w:=by
 refine wpIn_region ?_
 rw [List.range_eq_range']
 exact XJ b W lim σ H w hl ops.size 0 fr H a w σ LL (fun r hr a p o g h i k m n=>⟨r,hr,rfl,o,g,h,i,k,m,n⟩) (by simp) d (Stp.refl _ _) (PQ.le_refl _) (Grow.refl _ _) (fun j c=>absurd rfl c) (Nd _) (by simpa using f)
theorem Todo.start {ops:Array Oper} {ord:List Nat} (a:∀i,i∈ord↔i<ops.size):Todo ops ord (Array.replicate ops.size false) ord:=by
 refine ⟨fun i=>?_,List.Sublist.refl _,by simp,fun i o ho hl=>?_⟩
 ·rw [a]
  constructor
  ·intro hi
   refine ⟨hi, ?_⟩
   rw [Nw,Nu (by simpa using hi)]
   simp
  ·exact fun h=>h.1
 ·exfalso
  rw [Nw,Array.getElem?_replicate] at hl
  split at hl<;>simp at hl
theorem Ndr {C:TH} (l:CallOk (Prg.mk P (Env.pure E)) C) {pf:FuncId->Bool} (p:P.follows .mixedOrders=true) {id:Nat} {ops:Array Oper} {n:Nat} {L:List AIns} (hl:UR P pf ops=some (.drawn n L)) {N:Nat} {fr fr':Nat->Value} {a:Act}
  (d:State (Prg.mk P (Env.pure E)) ds W lim σ N fr H a w) (q:Xg C N lim (some H.length) L fr (H++List.replicate n .dead)=some (fr',H')):(Code.region id ops true).wpIn (WF ro) 0 P (fun e a' w'=>e=.normal/\∃k,State (Prg.mk P (Env.pure E)) ds W lim k N fr' H' a' w'/\Stp W w w'/\PQ.le σ k/\(∀j,k j≠σ j->H.length<=j)) a w:=by
 refine wpIn_region_any p ?_
 obtain ⟨ord,L0,pl,rfl⟩:=Njj hl
 have c:ord.length=ops.size:=by
  have h1:ord.Perm (List.range ops.size):=(List.perm_ext_iff_of_nodup pl.nodup List.nodup_range).2 fun i=>by rw [pl.mem,List.mem_range]
  rw [h1.length_eq,List.length_range]
 have h:State (Prg.mk P (Env.pure E)) ds W lim σ N fr (H++List.replicate n .dead) a w.drew:=⟨d.fr,(d.inv.pad n).drew,by have:=d.lim;simp;omega⟩
 refine Nc7 l pl fr' H' W lim d.lim σ (H++List.replicate n .dead) w.drew (fun a A x s t u y v z=>⟨rfl,x,s,Stp.drew.trans t,u,v⟩) ops.size _ ord fr _ a w.drew σ c (Todo.start pl.mem) h (Stp.refl _ _) (PQ.le_refl _) (Grow.refl _ _)
  (fun j o=>absurd rfl o) (Nd _) ⟨by simp,fun r hr b hb m=>?_,fun r hr=>d.inv.dom _ (by omega),fun r hr=>?_⟩ ?_
 ·rw [N0 (by omega),Qv] at hb
  split at hb
  ·cases hb;simp [alive] at m
  ·cases hb
 ·obtain ⟨b,hb,g⟩:=List.mem_filterMap.1 hr
  have f:b<L0.length:=by rw [pl.len];exact (pl.mem b).1 hb
  exact pl.dest b _ r (by rw [Na,Nf f];rfl) (Zu g)
 ·exact q
def Fin (P:Program) (md:Md) (b:Frame) (cs:List Frame) (m:Machine) (v':Value) (w':World):Prop:=
 match md with
 | .r _=>∃c cs',cs=c::cs'/\m=lone (c.finish v') cs' w'
 | _=>∃fr,m=lone fr cs w'/\fr.fn=b.fn/\fr.leaving P w' (.returned v')
def Ws (P:Program) (pf:FuncId->Bool) (W:Nat->Prop) (lim:Nat) (σ:PQ) (md:Md) (v:Value) (H H':NB) (w:World) (b:Frame) (K:List Item) (cs:List Frame) (a:Act):Prop:=
 ∃m v' w' c,Steps P (lone (b.atR a K) cs w) m/\Fin P md b cs m v' w'/\VRel c v v'/\Inv (Prg.mk P pf) W lim c H' w'/\Stp W w w'/\PQ.le σ c/\∀j,c j≠σ j->H.length<=j
theorem Ws.step {pf:FuncId->Bool} {md:Md} {v:Value} {b:Frame} {K c:List Item} {cs:List Frame} {a:Act} (h:step P (lone (b.atR a K) cs w)=.next (lone (b.atR a c) cs w)) (k:Ws P pf W lim σ md v H H' w b c cs a):Ws P pf W lim σ md v H H' w b K cs a:=by
 obtain ⟨a',w',d,fr',h1,h2⟩:=k
 exact ⟨a',w',d,fr',Steps.head h h1,h2⟩
theorem Ws.steps {pf:FuncId->Bool} {md:Md} {v:Value} {b:Frame} {K i:List Item} {cs:List Frame} {a a1:Act} {g:World} {c:PQ} {H1:NB} (h:Steps P (lone (b.atR a K) cs w) (lone (b.atR a1 i) cs g)) (f:Stp W w g) (d:PQ.le σ c) (r:∀j,c j≠σ j->H.length<=j) (u:H.length<=H1.length)
  (k:Ws P pf W lim c md v H1 H' g b i cs a1):Ws P pf W lim σ md v H H' w b K cs a:=by
 obtain ⟨m,v',w',t,h1,h2,l,n,o,p,q⟩:=k
 refine ⟨m,v',w',t,Steps.trans h h1,h2,l,n,f.trans o,PQ.le_trans d p,fun j s=>?_⟩
 apply Oi
 intro hc
 have e1:c j=σ j:=Oi fun e=>hc (r j e)
 have:=q j (fun e=>s (e.trans e1))
 omega
def QO (P:Program) (pf:FuncId->Bool) (W:Nat->Prop) (lim:Nat) (σ:PQ) (md:Md) (R:List (Value×NB)) (H:NB) (w:World) (b:Frame) (K:List Item) (cs:List Frame) (a:Act):Prop:=
 ∃r∈R,Ws P pf W lim σ md r.1 H r.2 w b K cs a
theorem QO.step {pf:FuncId->Bool} {md:Md} {R:List (Value×NB)} {b:Frame} {K c:List Item} {cs:List Frame} {a:Act} (h:step P (lone (b.atR a K) cs w)=.next (lone (b.atR a c) cs w)) (k:QO P pf W lim σ md R H w b c cs a):QO P pf W lim σ md R H w b K cs a:=by
 obtain ⟨r,hr,k⟩:=k
 exact ⟨r,hr,k.step h⟩
theorem QO.steps {pf:FuncId->Bool} {md:Md} {R i:List (Value×NB)} {b:Frame} {K g:List Item} {cs:List Frame} {a a1:Act} {e:World} {f:PQ} {H1:NB} (h:Steps P (lone (b.atR a K) cs w) (lone (b.atR a1 g) cs e)) (d:Stp W w e) (c:PQ.le σ f) (n:∀j,f j≠σ j->H.length<=j) (l:H.length<=H1.length)
  (k:QO P pf W lim f md i H1 e b g cs a1) (m:∀x∈i,x∈R):QO P pf W lim σ md R H w b K cs a:=by
 obtain ⟨r,hr,k⟩:=k
 exact ⟨r,m r hr,k.steps h d c n l⟩
def Cx (P:Program) (σ:PQ) (md:Md) (af:AFunc) (b:Frame) (cs:List Frame):Prop:=
 b.kind=.normal/\match md with
 | .r i=>∃L c cs',b.roundOf=some L.blk/\σ i=some L/\cs=c::cs'
 | _=>b.roundOf=none/\∃fn,P.funcs[b.fn]? = some fn/\fn.results.toList.mapM (Y2 P)=some af.results
theorem Cx.mono {σ τ:PQ} (a:PQ.le σ τ) {md:Md} {af:AFunc} {b:Frame} {cs:List Frame} (h:Cx P σ md af b cs):Cx P τ md af b cs:=by
 refine ⟨h.1, ?_⟩
 have h2:=h.2
 cases md with
 | r i=>obtain ⟨L,c,cs',d,e,f⟩:=h2;exact ⟨L,c,cs',d,a _ _ e,f⟩
 | _=>exact h2
theorem Inv.enterLoop (h:Inv (Prg.mk P (Env.pure E)) W lim σ H w) {x:LoopB} {lp:Loop} (y:LoopRel (Prg.mk P (Env.pure E)) σ x lp) :
  ∃g,Inv (Prg.mk P (Env.pure E)) W lim g (H++[.dfr,.loop x]) ((w.alloc (.deferred (some []))).alloc (.loop lp))/\PQ.le σ g/\g H.length=some ⟨w.heap.size,0,0⟩/\g (H.length+1)=some ⟨w.heap.size+1,0,0⟩/\∀j,g j≠σ j->H.length<=j:=by
 have c:∀{H:NB} {w:World} {σ:PQ} (h:Inv (Prg.mk P (Env.pure E)) W lim σ H w) {b:Blk} {o:Obj},owned b=true->U2 (Prg.mk P (Env.pure E)) (σ.put H.length ⟨w.heap.size,0,0⟩) (w.alloc o) ⟨w.heap.size,0,0⟩ b->Inv (Prg.mk P (Env.pure E)) W lim (σ.put H.length ⟨w.heap.size,0,0⟩) (H++[b]) (w.alloc o):=by
  intro H w σ h b o ho hb
  have v:Inv (Prg.mk P (Env.pure E)) W lim σ H (w.alloc o):=h.world (by simp) fun b hb=>by rw [Ub,Pc];rw [Ni (by omega)]
  obtain ⟨q,r,A,s,B,C,D⟩:=TB (dest:=none) (b:=b) (H:=H) (show place none b H=(H.length,H++[b]) from rfl) (fun d e=>by cases e)
  refine v.adopt q r s (h.dom _ (Nd _)) hb ho (h.fresh _ (Nd _)) fun j bj Lj u k m i e=>?_
  obtain ⟨z,h1,h2⟩:=h.blk j bj k m
  rw [i] at h1;cases h1
  have:=h2.lt m
  simp at e
  omega
 have n:=c h (b:=.dfr) (o:=.deferred (some [])) rfl (by show (w.alloc _).heap[_]? = _;simp [Ub])
 have f:PQ.le σ (σ.put H.length ⟨w.heap.size,0,0⟩):=PQ.le_put (h.dom _ (Nd _))
 have l:=n.dom (H.length+1) (by simp)
 have a:=PQ.le_put (L:=⟨w.heap.size+1,0,0⟩) l
 have p:=c n (b:=.loop x) (o:=.loop lp) rfl (by
  refine ⟨lp,World.alloc_heap_new _ _, ?_⟩
  simp only [Nj,Nm,Nn,World.size_alloc] at a⊢
  exact (y.mono f).mono a)
 simp only [Nj,Nm,Nn,World.size_alloc,Nl,N1,N6] at p
 refine ⟨_,p,PQ.le_trans f a, ?_,PQ.put_same,fun j t=>?_⟩
 ·simp [PQ.put]
 ·apply Oi
  intro hc
  refine t ?_
  simp only [PQ.put]
  rw [Ni (by omega),Ni (by omega)]
theorem Zk (hE:EnvOk P E) (n:Nat) (hC:∀m,m<n->CallOkS (Prg.mk P (Env.pure E)) (Rh E m)):∀(m:Nat),m<=n->∀{md:Md} {ms:List Nat} {ds:List Deferred} {af:AFunc} {k:List AItem} {fr:Nat->Value} {σ:PQ} {H:NB} {w:World} {R:List (Value×NB)} {K:List Item} {a:Act} (b:Frame) (cs:List Frame),
   OW E m af lim k fr H=some R->KRel P E.pure md ms k K->(md=.n->ms=[])->Nbv lim σ ms.reverse ds->Cx P σ md af b cs->(∀i,md=.r i->lim<=i)->State (Prg.mk P (Env.pure E)) ds W lim σ af.ntmps fr H a w->
   QO P E.pure W lim σ md R H w b K cs a:=by
 intro m
 induction m using Nat.strongRecOn with
 | ind m ih=>
 intro hm md ms ds af k fr σ H w R K a b cs hx hK hms hds hcx hri hs
 cases m with
 | zero=>simp [OW] at hx
 | succ m=>
 have ih':∀{k:List AItem} {K:List Item},OW E m af lim k fr H=some R->KRel P E.pure md ms k K->QO P E.pure W lim σ md R H w b K cs a:=fun hx hK=>ih m (by omega) (by omega) b cs hx hK hms hds hcx hri hs
 have finN:md=.n->∀{todo:List Item},step P (lone (b.atR a K) cs w)=.next (lone { b.atR a todo with mode:=.returning } cs w)->one ((result fr H af.results).map (·,H))=some R->QO P E.pure W lim σ md R H w b K cs a:=fun hmd todo hst h=>by
  subst hmd
  rw [hms rfl] at hds
  cases hds
  obtain ⟨hk,hro,fn,hfn,hrs⟩:=hcx
  obtain ⟨x,h',rfl⟩:=UD h
  simp only [Nc] at h'
  obtain ⟨v,h1,rfl⟩:=h'
  obtain ⟨v',h7,h8⟩:=XH hs hrs h1
  exact ⟨_,Ng.2 rfl,_,v',w,σ,.one hst,⟨_,rfl,rfl,rfl,hs.fr.defers,hk,fn,hfn,h7⟩,h8,hs.inv,Stp.refl _ _,PQ.le_refl _,fun j hj=>absurd rfl hj⟩
 have UO:md=.m->marks k=marks k->∀{todo:List Item} {ks:List AItem},marks ks=ms.reverse->step P (lone (b.atR a K) cs w)=.next (lone { b.atR a todo with mode:=.returning } cs w)->
   (match shut lim (marks ks) H with | some H'=>one ((result fr H' af.results).map (·,H')) | none=>none)=some R->QO P E.pure W lim σ md R H w b K cs a:=fun hmd _ todo ks hmk hst h=>by
  subst hmd
  obtain ⟨hk,hro,fn,hfn,hrs⟩:=hcx
  split at h
  case h_2=>cases h
  rename_i H1 hsh
  rw [hmk] at hsh
  obtain ⟨w1,k1,k2,k3,k4⟩:=MP (b:=b) (a:=a) (todo:=todo) (cs:=cs) _ ds hds hs.inv hsh
  obtain ⟨x,h',rfl⟩:=UD h
  simp only [Nc] at h'
  obtain ⟨v,h1,rfl⟩:=h'
  have hs1:State (Prg.mk P (Env.pure E)) ds W lim σ af.ntmps fr H1 a w1:=⟨hs.fr,k2,by rw [k4];exact hs.lim⟩
  obtain ⟨v',h7,h8⟩:=XH hs1 hrs h1
  have ea:{ a with defers:=ds }=a:=by rw [<-hs.fr.defers]
  rw [ea] at k1
  exact ⟨_,Ng.2 rfl,_,v',w1,σ,Steps.head hst k1,⟨_,rfl,rfl,rfl,rfl,hk,fn,hfn,h7⟩,h8,k2,k3,PQ.le_refl _,fun j hj=>absurd rfl hj⟩
 have finR:∀{i:Nat} {j:Option ACode} {J:Option Code},md=.r i->(match j with | none=>J=none | some c=>∃C,J=some C/\TP P E.pure C=some c)->
   (∀{L c cs' v w'},b.roundOf=some L->b.kind=.normal->cs=c::cs'->(Instr.endRound L J).run P w=.ok v w'->step P (lone (b.atR a K) (c::cs') w)=.next (lone (c.finish v) cs' w'))->
   one (endRound i j H)=some R->QO P E.pure W lim σ md R H w b K cs a:=fun {i j J} hmd hj hst h=>by
  subst hmd
  obtain ⟨hk,L,c,cs',hro,hL,rfl⟩:=hcx
  obtain ⟨⟨v,H'⟩,h',rfl⟩:=UD h
  obtain ⟨w1,h1,h2,h3,h4⟩:=Na1 hs.inv hL (hri i rfl) hj h'
  exact ⟨_,Ng.2 rfl,_,v,w1,σ,.one (hst hro hk rfl h1),⟨c,cs',rfl,rfl⟩,h2,h3,h4,PQ.le_refl _,fun j hj=>absurd rfl hj⟩
 rw [OW.eq_def] at hx
 simp only at hx
 cases hK with
 | nilN=>exact finN rfl (stepR_end hcx.2.1) hx
 | nilM=>exact UO rfl rfl (Zt ms) (stepR_end hcx.2.1) hx
 | @nilR i=>
   simp only at hx
   split at hx
   case isFalse=>cases hx
   exact finR rfl (J:=none) rfl (fun {L c cs' v w'} h1 h2 h3 h4=>stepR_round_end h1 h2 h4) hx
 | inBlock t=>exact QO.step stepR_inBlock (ih' hx t)
 | inLoop h t=>exact QO.step stepR_inLoop (ih' hx (.code h (.inLoop h t)))
 | @begin i ms k K t=>
   simp only at hx
   split at hx
   case h_2=>cases hx
   rename_i x hb
   split at hx
   case isFalse=>cases hx
   rename_i hc
   obtain ⟨hk,L,c,cs',hro,hL,rfl⟩:=hcx
   obtain ⟨lp,h1,h2⟩:=hs.inv.loop hb hL
   have hlt:L.blk<w.heap.size:=(Array.getElem?_eq_some_iff.1 h1).1
   obtain ⟨i1,i2⟩:=hs.inv.putLoop (o:=.loop { lp with state:=.busy }) (b':=.loop { x with st:=1 }) hb rfl hL hc.2
    ⟨_,World.putObj_heap_same hlt,rfl,h2.pend,h2.size,h2.val,h2.params,h2.assign,h2.body⟩ (fun _=>rfl)
   have hst:lp.state=.ready:=by rw [h2.st,hc.1];rfl
   refine QO.steps (.one (stepR_beginRound hro (run_beginRound h1 hst))) i2 (PQ.le_refl _) (fun j hj=>absurd rfl hj) (by simp) (ih m (by omega) (by omega) b _ hx t hms hds ⟨hk,L,c,cs',hro,hL,rfl⟩ hri ⟨hs.fr,i1,by have:=hs.lim;simpa using this⟩) (fun x hx=>hx)
 | @code md ms c C k K h t=>
   cases Nk2 h with
   | skip=>exact QO.step stepR_skip (ih' hx t)
   | @plain _ id ops l hl=>
     simp only at hx
     obtain ⟨LL,h1,h2⟩:=Nah E l m af lim k fr H _ hx
     have hCm:=hC (m-1) (by omega)
     obtain ⟨e,a1,w1,hq,harr⟩:=Ndq (ro:=b.roundOf) hCm (id:=id) hl hs h1 b K cs rfl trivial (room_wide _)
     obtain ⟨r,hr,rfl,σ1,q1,q2,q3,q4,q5,q6⟩:=hq
     obtain ⟨m1,R',g1,g2,g3⟩:=h2 r hr
     exact QO.steps (StepsIn.steps harr) q2 q3 q5 q6 (ih m1 (by omega) (by omega) b cs g2 t hms (hds.mono q3) (hcx.mono q3) hri q1) g3
   | @drawn _ id ops nn L hdr=>
     simp only at hx
     obtain ⟨m1,fr1,H1,h1,h2,h3⟩:=Ncv E L m af lim H.length k fr _ _ hx
     have hCm:=hC (m-1) (by omega)
     obtain ⟨e,a1,w1,hq,harr⟩:=Ndr (ro:=b.roundOf) hCm.det hE.mixed (id:=id) hdr hs h2 b K cs rfl trivial (room_wide _)
     obtain ⟨rfl,σ1,q1,q2,q3,q5⟩:=hq
     have hlen:H.length<=H1.length:=by
      have key:∀(l:List AIns) (fr fr1:Nat->Value) (H0 H1:NB),lim<=H0.length->Xg (det (Rh E (m-1))) af.ntmps lim (some H.length) l fr H0=some (fr1,H1)->H0.length<=H1.length:=by
       intro l
       induction l with
       | nil=>intro fr fr1 H0 H1 _ hx;simp [Xg] at hx;rw [hx.2];exact Nd _
       | cons i l ih=>
         intro fr fr1 H0 H1 hl hx
         obtain ⟨f2,H2,g1,g2⟩:=VI hx
         obtain ⟨g3,_⟩:=Nau hCm.grow.det g1 (fun b e=>by cases e;exact hs.lim) hl
         have:=ih _ _ _ _ (by omega) g2
         omega
      have:=key L fr fr1 _ H1 (by have:=hs.lim;simp;omega) h2
      simp at this
      omega
     exact QO.steps (StepsIn.steps harr) q2 q3 q5 hlen (ih m1 (by omega) (by omega) b cs h3 t hms (hds.mono q3) (hcx.mono q3) hri q1) (fun x hx=>hx)
   | seq hx' hy'=>exact QO.step stepR_seq (ih' hx (.code hx' (.code hy' t)))
   | @cond _ o x y x' y' hok hx' hy'=>
     have hev:=hs.fr.ev hok
     simp only at hx
     cases he:ev fr o<;>rw [he] at hx hev<;>(try (cases hx;done))
     rename_i t'
     have hb:=hev.bool_left
     cases t' with
     | true=>exact QO.step (stepR_cond hb) (ih' hx (.code hx' t))
     | false=>exact QO.step (stepR_cond hb) (ih' hx (.code hy' t))
   | block hx'=>exact QO.step stepR_block (ih' hx (.code hx' (.inBlock t)))
   | loop hx'=>exact QO.step stepR_loop (ih' hx (.code hx' (.inLoop hx' t)))
   | exit hmd=>
     simp only at hx
     split at hx
     case h_2=>cases hx
     rename_i k' hk'
     obtain ⟨K',h1,h2⟩:=t.exit hk'
     exact QO.step (stepR_exit h1) (ih' hx h2)
   | @exitR i id=>
     simp only at hx
     split at hx
     ·rename_i k' hk'
      obtain ⟨K',h1,h2⟩:=t.exit hk'
      exact QO.step (stepR_exit h1) (ih' hx h2)
     ·rename_i hk'
      rw [t.roundOf] at hx
      simp only at hx
      split at hx
      case isFalse=>cases hx
      exact finR rfl (j:=some (.exit id)) (J:=some (.exit id)) ⟨_,rfl,rfl⟩ (fun {L c cs' v w'} h1 h2 h3 h4=>stepR_round_exit h1 h2 (t.noExit hk') h4) hx
   | ret=>exact finN rfl (stepR_ret hcx.2.1) hx
   | retM=>exact UO rfl rfl t.marks (stepR_ret hcx.2.1) hx
   | retR=>
     simp only at hx
     rw [t.roundOf] at hx
     simp only at hx
     split at hx
     case isFalse=>cases hx
     exact finR rfl (j:=some .retM) (J:=some .ret) ⟨_,rfl,rfl⟩ (fun {L c cs' v w'} h1 h2 h3 h4=>stepR_round_ret h1 h2 h4) hx
   | @rangeF f ps x y x' y' hok hx' hy'=>
     have hCm:=hC m (by omega)
     have hev:=hs.fr.ev hok
     simp only at hx
     split at hx
     case h_2=>cases hx
     rename_i g as hcl
     unfold NC at hcl
     split at hcl
     case h_2=>simp at hcl
     case h_3=>cases hcl
     rename_i g' fi ca hf
     simp only [Option.some.injEq,Prod.mk.injEq,Sum.inl.injEq] at hcl
     obtain ⟨rfl,rfl⟩:=hcl
     rw [hf] at hev
     obtain ⟨fi',ca',hf',hfi,hca⟩:=hev.func_left
     split at hx
     case h_2=>cases hx
     rename_i L2 hcall
     obtain ⟨hk,hro,fn0,hfn0,hrs0⟩:=hcx
     have hxl:LoopRel (Prg.mk P (Env.pure E)) σ ⟨0,none,fr,af.ntmps,ps.toList,x',y'⟩ { state:=.ready,pending:=none,fn:=b.fn,tmps:=a.tmps,params:=ps,assign:=x,body:=y,defers:=w.heap.size }:=
      ⟨rfl,rfl,hs.fr.size,hs.fr.val,rfl,hx',hy'⟩
     obtain ⟨σ1,i1,hle1,hl1,hl2,hch1⟩:=hs.inv.enterLoop hxl
     obtain ⟨fn,g1,g2,g3⟩:=hCm.fn _ _ _ _ _ _ hcall
     have hargs:OB σ1 (fi.toList++[.func (.yield (H.length+1)) #[] #[]]++ca.toList) (fi'.toList++[.func (.yield (w.heap.size+1)) #[] #[]]++ca'.toList):=
      ((hfi.mono hle1).append (OB.cons (.yld hl2) OB.nil)).append (hca.mono hle1)
     have hcalls:=hCm.calls _ _ _ _ _ _ hcall (by have:=hs.lim;simp;omega) W σ1 _ _ i1 hargs
     have hkc:∀v,a.eval (.const v)=v:=fun _=>rfl
     have hbn:fn.body≠none:=fun h=>by rw [h] at g2;cases g2
     have h3':¬(fn.name= "runtime.NumGoroutine"):=by simpa using g3
     have ea:(fi'.toList++[Value.func (.yield (w.heap.size+1)) #[] #[]]++ca'.toList).toArray=fi'++#[Value.func (.yield (w.heap.size+1)) #[] #[]]++ca':=by apply Array.ext';simp
     rw [ea] at hcalls
     have henter:=stepR_rangeFunc (P:=P) (b:=b) (a:=a) (k:=K) (cs:=cs) (w:=w) (g:=f) (ps:=ps) (assign:=x) (body:=y) (f:=g') (args:=fi'++#[Value.func (.yield (w.heap.size+1)) #[] #[]]++ca')
      (show (Instr.enterLoop b.fn a.tmps ps x y b.roundOf).run P w=.ok (w.heap.size+1,[{ target:=.collected w.heap.size,args:=#[] }])
       ((w.alloc (.deferred (some []))).alloc (.loop { state:=.ready,pending:=none,fn:=b.fn,tmps:=a.tmps,params:=ps,assign:=x,body:=y,defers:=w.heap.size })) by rw [hro];exact run_enterLoop_outer _ _ _ _ _)
      (show (resolve a.eval (rangeCall f (w.heap.size+1)) 0).run P _=.ok { target:=.fn (.func g') ca',args:=fi'++#[Value.func (.yield (w.heap.size+1)) #[] #[]] } _ by
       simp [resolve,Deferred.ofValue,hf',hkc];rfl)
      (show (invoke (.fn (.func g') ca') (fi'++#[Value.func (.yield (w.heap.size+1)) #[] #[]])).run P _=.ok (.enter g' _) _ by
       simp [invoke,callFunc,g1,h3',hbn];rfl)
     obtain ⟨e,w3,fr3,⟨⟨v2,H2⟩,hr2,v3,σ3,rfl,q1,q2,q3,q4,q5⟩,hcome,hfr3,hlv⟩:=hcalls (b.atR { a with defers:=[{ target:=.collected w.heap.size,args:=#[] }]++a.defers } (.inRangeFunc (w.heap.size+1)::K)::cs)
     obtain ⟨R',hx,hsub⟩:=U0 hx _ hr2
     simp only at hx q2
     split at hx
     case h_2=>cases hx
     rename_i xx hb
     split at hx
     ·cases hx
     rename_i hst
     have hL3:σ3 (H.length+1)=some ⟨w.heap.size+1,0,0⟩:=q4 _ _ hl2
     obtain ⟨lp,h1,h2⟩:=q2.loop hb hL3
     have hnb:lp.state≠.busy:=fun e=>by
      rw [h2.st] at e
      unfold Nwz at e
      split at e<;>first | (cases e;done) | skip
      rename_i h;exact hst h
     have hlimx:lim<=H.length+1:=by have:=hs.lim;omega
     obtain ⟨i3,s3⟩:=q2.putLoop (o:=.loop { lp with state:=.exhausted }) (b':=.dead) hb rfl hL3 hlimx trivial (fun h=>by simp [alive] at h)
     have hall:Steps P (lone (b.atR a (.code (.rangeFunc f ps x y)::K)) cs w) (lone (b.atR { a with defers:=[{ target:=.collected w.heap.size,args:=#[] }]++a.defers } ((lp.pending.map Item.code).toList++K)) cs (w3.putObj (w.heap.size+1) (.loop { lp with state:=.exhausted }))):=by
      refine Steps.head henter (Steps.trans hcome (Steps.head (step_leave_returned hlv) ?_))
      rw [finish_atR_inRangeFunc]
      exact .one (stepR_endRangeFunc (run_endLoop h1 hnb))
     have hst1:Stp W w ((w.alloc (.deferred (some []))).alloc (.loop { state:=.ready,pending:=none,fn:=b.fn,tmps:=a.tmps,params:=ps,assign:=x,body:=y,defers:=w.heap.size })):=
      (Stp.alloc hs.inv.fresh _).trans (Stp.alloc (fun k hk=>hs.inv.fresh k (by simp at hk;omega)) _)
     have hlen2:H.length+2<=H2.length:=by
      have:=(hCm.grow _ _ _ _ _ _ hcall (by have:=hs.lim;simp;omega) _ hr2).1
      simpa using this
     have hle3:PQ.le σ σ3:=PQ.le_trans hle1 q4
     have hpend:=h2.pend
     refine QO.steps hall (hst1.trans (q3.trans s3)) hle3 (fun j hj=>?_) (by simp;omega) (ih m (by omega) (by omega) (ms:=ms++[H.length]) (ds:={ target:=.collected w.heap.size,args:=#[] }::ds) b cs hx ?_ (fun h=>by cases h) ?_ ⟨hk,hro,fn0,hfn0,hrs0⟩ (fun i h=>by cases h) ⟨?_,i3,by have:=hs.lim;simp;omega⟩) hsub
     ·apply Oi
      intro hc
      have e1:σ1 j=σ j:=Oi fun e=>hc (hch1 j e)
      have:=q5 j (fun e=>hj (e.trans e1))
      simp at this
      omega
     ·have tm:=t.addMark H.length
      cases hp:xx.pend with
      | none=>rw [hp] at hpend;simp only at hpend;rw [hpend];simpa using tm
      | some c=>
        rw [hp] at hpend
        obtain ⟨C,hC1,hC2⟩:=hpend
        rw [hC1]
        exact .code (md:=.m) hC2 tm
     ·rw [List.reverse_append]
      exact ⟨⟨w.heap.size,0,0⟩,ds,hs.lim,q4 _ _ hl1,rfl,hds.mono hle3⟩
     ·exact ⟨hs.fr.size,by simp [hs.fr.defers],fun t=>(hs.fr.val t).mono hle3⟩
theorem Njb {as as':List Value} (h:OB σ as as') (fn:Func):FrRel [] σ fn.ntmps (ND as) { tmps:=as'.toArray++Array.replicate (fn.ntmps-as'.toArray.size) undef,defers:=[] }:=by
 refine ⟨by simp;omega,rfl,fun t=>?_⟩
 unfold ND
 rw [Nw,Na]
 by_cases b:t<as.length
 ·have a:t<as'.length:=by rw [<-h.1];exact b
  rw [Array.getElem?_append_left (by simpa using a),Nf b]
  simp only [List.getElem?_toArray,Nf a,Oj]
  exact h.2 t _ _ (Nf b) (Nf a)
 ·have a:as'.toArray.size<=t:=by simp [<-h.1];omega
  rw [Nv (by omega),Array.getElem?_append_right a,Array.getElem?_replicate]
  have c:VRel σ undef undef:=.atom rfl
  split<;>exact c
theorem MI {pf:FuncId->Bool} {g:FuncId} {af:AFunc} (ht:NT P pf g=some af):∃fn body md c rs,P.funcs[g]? = some fn/\fn.body=some body/\trX P pf md body=some c/\fn.results.toList.mapM (Y2 P)=some rs/\(fn.name == "runtime.NumGoroutine")=false/\
  ((md=.n/\af={ ntmps:=fn.ntmps,results:=rs,body:=c })\/(md=.m/\af={ ntmps:=fn.ntmps,results:=rs,body:=.seq c .retM })):=by
 unfold NT at ht
 split at ht
 ·rename_i a ha
  cases ht
  unfold Nj7 at ha
  obtain ⟨fn,hfn,ht⟩:=NM ha
  obtain ⟨body,hb,ht⟩:=NM ht
  obtain ⟨c,hc,ht⟩:=NM ht
  obtain ⟨rs,hrs,ht⟩:=NM ht
  split at ht
  ·cases ht
  ·rename_i hn
   cases ht
   exact ⟨fn,body,.n,c,rs,hfn,hb,hc,hrs,by simpa using hn,.inl ⟨rfl,rfl⟩⟩
 ·unfold Nj8 at ht
  obtain ⟨fn,hfn,ht⟩:=NM ht
  obtain ⟨body,hb,ht⟩:=NM ht
  obtain ⟨c,hc,ht⟩:=NM ht
  obtain ⟨rs,hrs,ht⟩:=NM ht
  split at ht
  ·cases ht
  ·rename_i hn
   cases ht
   exact ⟨fn,body,.m,c,rs,hfn,hb,hc,hrs,by simpa using hn,.inr ⟨rfl,rfl⟩⟩
theorem Na8 (z:EnvOk P E) (n:Nat) (y:∀m,m<n->CallOkS (Prg.mk P (Env.pure E)) (Rh E m)) {g:FuncId} {af:AFunc} (B:NT P E.pure g=some af) {as as':List Value} {R:List (Value×NB)} (l:OW E n af lim [.code af.body] (ND as) H=some R) (hl:lim<=H.length)
  (f:Inv (Prg.mk P (Env.pure E)) W lim σ H w) (A:OB σ as as'):Calls P g as'.toArray w fun e w'=>∃r∈R,UI (Prg.mk P (Env.pure E)) W lim σ H r.1 r.2 w e w':=by
 obtain ⟨fn,body,md,c,C,d,hb,hc,j,hn,v⟩:=MI B
 intro cs
 let b:Frame:={ (default:Frame) with fn:=g,kind:=.normal,roundOf:=none }
 have a:Frame.enter P g as'.toArray .normal=b.atR { tmps:=as'.toArray++Array.replicate (fn.ntmps-as'.toArray.size) undef,defers:=[] } [.code body]:=by
  simp [Frame.enter,Frame.atR,d,hb,b]
 have k:State (Prg.mk P (Env.pure E)) [] W lim σ fn.ntmps (ND as) H { tmps:=as'.toArray++Array.replicate (fn.ntmps-as'.toArray.size) undef,defers:=[] } w:=⟨Njb A fn,f,hl⟩
 rcases v with ⟨rfl,rfl⟩ | ⟨rfl,rfl⟩
 ·obtain ⟨r,hr,m,v',w',x,h1,⟨fr,rfl,h2,o⟩,p,q,s,t,u⟩:=Zk (W:=W) z n y n (Nd _) (ms:=[]) b cs l (.code hc .nilN) (fun _=>rfl) rfl ⟨rfl,rfl,fn,d,j⟩ (fun i h=>by cases h) k
  rw [<-a] at h1
  exact ⟨.returned v',w',fr,⟨r,hr,v',x,rfl,p,q,s,t,u⟩,h1,h2,o⟩
 ·cases n with
  | zero=>simp [OW] at l
  | succ n=>
  rw [OW.eq_def] at l
  simp only at l
  obtain ⟨r,hr,m,v',w',x,h1,⟨fr,rfl,h2,o⟩,p,q,s,t,u⟩:=Zk (W:=W) z (n+1) y n (by omega) (ms:=[]) b cs l (.code hc .nilM) (fun _=>rfl) rfl ⟨rfl,rfl,fn,d,j⟩ (fun i h=>by cases h) k
  rw [<-a] at h1
  exact ⟨.returned v',w',fr,⟨r,hr,v',x,rfl,p,q,s,t,u⟩,h1,h2,o⟩
theorem XG:∀(ps:List Nat) (as as':List Value) (fr:Nat->Value) (a:Array Value) (N:Nat),as.length=ps.length->(ps.all (·<N))=true->N<=a.size->OB σ as as'->(∀t,VRel σ (fr t) (a.getD t undef))->
  N<=((ps.zip as').foldl (fun (tmps:Array Value) (x:Nat×Value)=>tmps.setIfInBounds x.1 x.2) a).size/\∀t,VRel σ (TA fr ps as t) (((ps.zip as').foldl (fun (tmps:Array Value) (x:Nat×Value)=>tmps.setIfInBounds x.1 x.2) a).getD t undef)
 | [],as,as',fr,a,N,h,_,hN,ha,hv=>by
   cases as with
   | nil=>exact ⟨by simpa using hN,by simpa [TA] using hv⟩
   | cons=>simp at h
 | p::ps,as,as',fr,a,N,h,hp,hN,ha,hv=>by
   cases as with
   | nil=>simp at h
   | cons x xs=>
     cases as' with
     | nil=>have:=ha.1;simp at this
     | cons y ys=>
       simp only [List.all_cons,Nq,Nx] at hp
       simp only [List.zip_cons_cons,O9,TA]
       refine XG ps xs ys _ _ N (by simpa using h) hp.2 (by simpa using hN) ha.tail fun t=>?_
       rw [Nw]
       by_cases e:t=p
       ·subst e
        rw [Nk rfl,Array.getElem?_setIfInBounds_self_of_lt (by omega)]
        exact ha.head
       ·rw [Ni e,Pq (fun h=>e h.symm),<-Nw]
        exact hv t
theorem Ne9 (z:EnvOk P E) (n:Nat) (y:∀m,m<n->CallOkS (Prg.mk P (Env.pure E)) (Rh E m)) {i:Nat} {x:LoopB} (hb:NF H i=.loop x) (l:lim<=i) {as as':List Value} (f:as.length=x.params.length) (g:(x.params.all (·<x.N))=true) {R:List (Value×NB)}
  (A:OW E n ⟨x.N,[],.skip⟩ lim [.code x.assign,.begin i,.code x.body,.round i] (TA x.fr x.params as) H=some R) (hl:lim<=H.length)
  (d:Inv (Prg.mk P (Env.pure E)) W lim σ H w) (v:OB σ as as') {L:Loc} (u:σ i=some L) :
  ∃r,w.heap[L.blk]? = some (.loop r)/\as'.toArray.size=r.params.size/\RoundIn Fence.wide 0 P L.blk r.fn (Tg r as'.toArray) r.assign r.body w fun e w'=>∃x∈R,UI (Prg.mk P (Env.pure E)) W lim σ H x.1 x.2 w e w':=by
 obtain ⟨r,h1,h2⟩:=d.loop hb u
 have p:as'.toArray.size=r.params.size:=by
  have e:=v.1
  rw [<-Array.length_toList (xs:=r.params),h2.params,List.size_toArray];omega
 refine ⟨r,h1,p,trivial,fun c cs _=>?_⟩
 let b:Frame:={ (default:Frame) with fn:=r.fn,kind:=.normal,roundOf:=some L.blk }
 have k:Frame.round L.blk r.fn (Tg r as'.toArray) r.assign r.body .normal=b.atR { tmps:=Tg r as'.toArray,defers:=[] } [.code r.assign,.beginRound,.code r.body]:=by
  simp [Frame.round,Frame.atR,b]
 have o:Tg r as'.toArray=(x.params.zip as').foldl (fun (tmps:Array Value) (x:Nat×Value)=>tmps.setIfInBounds x.1 x.2) r.tmps:=by
  unfold Tg
  rw [<-h2.params,<-Array.foldl_toList]
  simp
 obtain ⟨s,t⟩:=XG (σ:=σ) x.params as as' x.fr r.tmps x.N f g h2.size v h2.val
 rw [<-o] at s t
 obtain ⟨I,q,m,v',w',J,k1,⟨c',cs',e1,rfl⟩,B,C,D,F,G⟩:=Zk (W:=W) z n y n (Nd _) (md:=.r i) (ms:=[]) (ds:=[]) (af:=⟨x.N,[],.skip⟩) (a:={ tmps:=Tg r as'.toArray,defers:=[] }) b (c::cs) A (.code (md:=.r i) h2.assign (.begin (.code (md:=.r i) h2.body .nilR))) (fun h=>by cases h) rfl
  ⟨rfl,L,c,cs,rfl,u,rfl⟩ (fun j h=>by cases h;exact l) ⟨⟨s,rfl,t⟩,d,hl⟩
 cases e1
 rw [<-k] at k1
 exact ⟨.returned v',w',⟨I,q,v',J,rfl,B,C,D,F,G⟩,comesIn_wide.2 k1⟩
theorem Nt8 (hE:EnvOk P E):∀n,CallOkS (Prg.mk P (Env.pure E)) (Rh E n):=by
 intro n
 induction n using Nat.strongRecOn with
 | ind n ih=>
 have hgrow:TE (Rh E n):=XO fun af lim k fr H L hk hx hl=>Nde E n af lim _ _ _ _ (fun x hx b l e=>absurd e (hk x hx b l)) hx hl
 have inv:∀{mp lim g as H L},Rh E n mp lim (.inl g) as H=some L->
   (∃v,E.orc g as=some v/\L=[(v,H)]/\as.all atom=true/\flat 4 v=true)\/
   (∃r,E.eff g as H=some r/\L=[(r.1,Nji H r.2)]/\mp=false/\Ncm lim H r.2.2=true)\/
   (∃af,E.tr g=some af/\((∃v,E.pure g=true/\L=[(v,H)]/\olds H.length 4 v=true/\∃L0,OW E n af H.length [.code af.body] (ND as) H=some L0/\∀r∈L0,r.1=v)\/(mp=false/\OW E n af lim [.code af.body] (ND as) H=some L))):=by
  intro mp lim g as H L h
  unfold Rh QN at h
  simp only at h
  split at h
  ·rename_i u hu
   split at h
   ·rename_i hf
    cases h
    simp only [Nq] at hf
    exact .inl ⟨u,hu,rfl,hf.1,hf.2⟩
   ·cases h
  split at h
  ·rename_i r hr
   split at h
   ·cases h
   ·rename_i hm
    cases h
    simp only [Bool.or_eq_true,Bool.not_eq_true',not_or,Bool.not_eq_false,Bool.not_eq_true] at hm
    exact .inr (.inl ⟨r,hr,rfl,hm⟩)
  ·split at h
   ·cases h
   ·rename_i af haf
    right;right
    refine ⟨af,haf, ?_⟩
    split at h
    ·rename_i hp
     split at h
     ·rename_i u H1 l h1
      split at h
      ·rename_i hall
       split at h
       ·rename_i hf
        cases h
        refine .inl ⟨u,hp,rfl,hf,_,h1,fun r hr=>?_⟩
        rcases Nh.1 hr with rfl | hr
        ·rfl
        ·exact (MF _ _ (N2.1 hall r hr)).symm
       ·cases h
      ·cases h
     ·cases h
    ·split at h
     ·cases h
     ·rename_i hmp
      exact .inr ⟨by simpa using hmp,h⟩
 have trOk:∀{g af},E.tr g=some af->∃fn,P.funcs[g]? = some fn/\fn.body.isSome=true/\(fn.name == "runtime.NumGoroutine")=false:=by
  intro g af h
  obtain ⟨fn,body,md,c,rs,hfn,hb,hc,hrs,hn,_⟩:=MI (hE.tr g af h)
  exact ⟨fn,hfn,by rw [hb];rfl,hn⟩
 have invR:∀{mp lim i as H L},Rh E n mp lim (.inr i) as H=some L->mp=false/\∃x,NF H i=.loop x/\lim<=i/\as.length=x.params.length/\(x.params.all (·<x.N))=true/\
   OW E n ⟨x.N,[],.skip⟩ lim [.code x.assign,.begin i,.code x.body,.round i] (TA x.fr x.params as) H=some L:=by
  intro mp lim i as H L h
  unfold Rh QN at h
  simp only at h
  split at h
  ·cases h
  rename_i hmp
  split at h
  ·rename_i x hb
   split at h
   ·rename_i hc
    exact ⟨by simpa using hmp,x,hb,hc.1,hc.2.1,hc.2.2,h⟩
   ·cases h
  ·cases h
 refine { pure:=?_,fn:=?_,calls:=?_,rounds:=?_,grow:=hgrow }
 ·intro mp lim g as H L h
  rcases inv h with ⟨v,e,_⟩ | ⟨r,e,_⟩ | ⟨af,e,_⟩
  ·exact hE.orcFn _ _ _ e
  ·exact hE.effFn _ _ _ _ e
  ·exact trOk e
 ·intro mp lim g as H L h hl W σ w as' hinv ha
  rcases inv h with ⟨v,e,rfl,hat,hfl⟩ | ⟨r,e,rfl,_,hu⟩ | ⟨af,e,⟨v,hp,rfl,hfl,L0,hx,hall⟩ | ⟨_,hx⟩⟩
  case inr.inl=>exact (hE.eff _ _ _ _ e lim hl hu W σ w as' hinv ha).mono fun en w' hp=>⟨_,Ng.2 rfl,hp⟩
  ·have heq:as'=as:=by
    apply O4 ha.1.symm
    intro i h1 h2
    exact (ha.2 i _ _ (Nf h2) (Nf h1)).eq_of_atom (N2.1 hat _ (by simp))
   subst heq
   refine (hE.orc _ _ _ e w hinv.toRoot.is).mono fun en w' hp=>?_
   obtain ⟨rfl,hb⟩:=hp
   obtain ⟨hb,hdr⟩:=hb
   refine ⟨_,Ng.2 rfl,v,σ,rfl, ?_,hinv.world hb.size (fun k hk=>hb.block k hk),⟨hb.os,hb.tape,⟨hb.output,hdr⟩,hb.size,fun k hk=>hb.block k ?_⟩,PQ.le_refl _,fun j hj=>absurd rfl hj⟩
   ·exact hE.orcFlat _ _ _ e σ
   ·rcases Ol k w.heap.size with h | h
    ·exact h
    ·exact absurd (hinv.fresh k h) hk
  ·have hinv':Inv (Prg.mk P (Env.pure E)) (fun k=>w.heap.size<=k) H.length σ H w:=⟨hinv.toRoot.over,hinv.blk,hinv.inj,fun i b L hb ho hli hL=>by
    have:=(List.getElem?_eq_some_iff.1 hb).1
    omega,hinv.dom⟩
   refine (Na8 hE n ih (hE.tr _ _ e) hx (Nd _) hinv' ha).mono fun en w' hp=>?_
   obtain ⟨r,hr,v',σ',rfl,h1,h2,h3,h4,h5⟩:=hp
   rw [hall r hr] at h1
   have hsm:∀k,k<w.heap.size->w'.heap[k]? = w.heap[k]?:=fun k hk=>h3.block k (by omega)
   refine ⟨_,Ng.2 rfl,v',σ,rfl,h1.olds (fun i L hi hL=>by rw [<-hL];exact (Oi fun e=>by have:=h5 i (Ne.symm e);omega:σ i=σ' i)) 4 hfl,hinv.world h3.size hsm,⟨h3.os,h3.tape,h3.output,h3.size,fun k hk=>hsm k ?_⟩,PQ.le_refl _,fun j hj=>absurd rfl hj⟩
   rcases Ol k w.heap.size with h | h
   ·exact h
   ·exact absurd (hinv.fresh k h) hk
  ·exact Na8 hE n ih (hE.tr _ _ e) hx hl hinv ha
 ·intro mp lim i as H L h hl W σ w as' L0 hinv ha hL
  obtain ⟨_,x,hb,h1,h2,h3,h4⟩:=invR h
  exact Ne9 hE n ih hb h1 h2 h3 h4 hl hinv ha hL
 ·intro lim g as H L h r hr
  cases g with
  | inr i=>obtain ⟨e,_⟩:=invR h;cases e
  | inl g=>
  rcases inv h with ⟨v,_,e,_⟩ | ⟨_,_,_,e,_⟩ | ⟨af,_,⟨v,_,e,_⟩ | ⟨e,_⟩⟩
  ·subst e;rw [Ng] at hr;subst hr;rfl
  ·cases e
  ·subst e;rw [Ng] at hr;subst hr;rfl
  ·cases e
theorem Inv.nil (w:World) (c:Nol (Prg.mk P (Env.pure E)) w):Inv (Prg.mk P (Env.pure E)) (fun k=>w.heap.size<=k) 0 (fun _=>none) [] w:=
 ⟨⟨fun b hb=>hb,by obtain ⟨w0,h1,h2,a⟩:=c;exact ⟨w0,h1,h2,fun b hb=>by omega,a⟩⟩,fun i b hb=>by simp at hb,fun i j bi bj Li Lj hb=>by simp at hb,fun i b L hb=>by simp at hb,fun _ _=>rfl⟩
end
end Go.AM


namespace Go.AM
universe u
namespace Sym
abbrev t (n:Nat):Operand:=.tmp n
abbrev k (v:Value):Operand:=.const v
abbrev i (d:Nat) (o:AOp):AIns:=⟨some d,none,o,none,[]⟩
abbrev zT (n:Int):Operand:=k (.int .i64 n)
abbrev mT (a b:Nat):AIns:=i a (.mov (t b))
abbrev lT (a b:Nat):AIns:=i a (.load1 (t b))
abbrev fT (a n b:Nat):AIns:=i a (.fieldAddr n (t b))
abbrev xT (a e b c:Nat):AIns:=i a (.idxAddrS e (t b) (t c))
abbrev St (n a b:Nat):AIns:=⟨none,none,.store n (t a) (t b),none,[]⟩
abbrev Bt (d:Nat) (o:BinOp) (a b:Nat):AIns:=i d (.bin o (t a) (t b))
abbrev Bc (d:Nat) (o:BinOp) (a:Nat) (c:Int):AIns:=i d (.bin o (t a) (zT c))
abbrev Ce (a b:Nat):ACode:=.cond (t a) .skip (.exit b)
abbrev Nt (d a:Nat):AIns:=i d (.lenSlice (t a))
abbrev Gt (d n a:Nat):AIns:=i d (.loadN n (t a))
abbrev Et (d n a:Nat):AIns:=i d (.extract n (t a))
abbrev Ct (d f:Nat) (l:List Operand):AIns:=i d (.call .any (.func f) l)
abbrev Yp (d g:Nat) (o:AOp):AIns:=⟨some d,some (g,true),o,none,[]⟩
abbrev Yq (d g:Nat) (o:AOp):AIns:=⟨some d,some (g,false),o,none,[]⟩
abbrev Pl (d g a:Nat):AIns:=Yp d g (.load1 (t a))
abbrev Ql (d g a:Nat):AIns:=Yq d g (.load1 (t a))
abbrev Pm (d g a:Nat):AIns:=Yp d g (.mov (t a))
abbrev Qm (d g a:Nat):AIns:=Yq d g (.mov (t a))
abbrev Pf (d g n a:Nat):AIns:=Yp d g (.fieldAddr n (t a))
abbrev Qf (d g n a:Nat):AIns:=Yq d g (.fieldAddr n (t a))
abbrev Qx (d g e a b:Nat):AIns:=Yq d g (.idxAddrS e (t a) (t b))
abbrev Pb (d g:Nat) (o:BinOp) (a b:Nat):AIns:=Yp d g (.bin o (t a) (t b))
abbrev Qb (d g:Nat) (o:BinOp) (a b:Nat):AIns:=Yq d g (.bin o (t a) (t b))
abbrev Zm (d:Nat) (c:Int):AIns:=i d (.mov (zT c))
abbrev At (d a b:Nat):AIns:=i d (.pick (t a) (t b) (k (.bool false)))
abbrev Ot (d a b:Nat):AIns:=i d (.pick (t a) (k (.bool true)) (t b))
abbrev Ut (d a:Nat):AIns:=i d (.un .not (t a))
abbrev Kt (d:Nat) (o:AOp) (m:List Nat):AIns:=⟨some d,none,o,none,m⟩
abbrev Wt (d:Nat) (o:AOp) (n:Nat):AIns:=⟨some d,none,o,some n,[]⟩
abbrev Oz (l:List AIns) (c:ACode):ACode:=.seq (.ops l) c
abbrev Ds (n:Nat) (l:List AIns) (c:ACode):ACode:=.seq (.drawn n l) c
abbrev Bl (n:Nat) (c:ACode):ACode:=.block n (.loop c)
abbrev Vi (n:Int):Value:=.int .i64 n
abbrev Vp (b:Nat):Value:=.pointer (some ⟨b,0,none⟩)
abbrev Sa (b:Nat):Option Addr:=some ⟨b,0,none⟩
abbrev Vz:Value:=.slice none 0 0
abbrev Vc (c:List Value):Blk:=.cells false c
end Sym
structure Bx {α:Sort u} (a:α):Type where
def Zd (dt:Bool) (L:List (Value×NB)) (R:Value->NB->Prop):Prop:=(dt=true->∃x,L=[x])/\∀r∈L,R r.1 r.2
theorem Zd.mono {dt:Bool} {L:List (Value×NB)} {R R':Value->NB->Prop} (h:Zd dt L R) (hr:∀v H,R v H->R' v H):Zd dt L R':=⟨h.1,fun r a=>hr _ _ (h.2 r a)⟩
theorem Ul {dt:Bool} {v:Value} {H:NB} {R:Value->NB->Prop}:Zd dt [(v,H)] R=R v H:=propext ⟨fun h=>h.2 (v,H) (by simp),fun h=>⟨fun _=>⟨_,rfl⟩,fun r hr=>by rw [Ng] at hr;subst hr;exact h⟩⟩
theorem Ue {dt:Bool} {r:Value×NB} {R:Value->NB->Prop}:Zd dt [r] R=R r.1 r.2:=Ul
def QZ (E:Env) (af:AFunc) (lim:Nat) (k:List AItem) (fr:Nat->Value) (H:NB) (R:Value->NB->Prop) (_:Bx k:=⟨⟩) (_:Bx R:=⟨⟩):Prop:=
 ∃n L,OW E n af lim k fr H=some L/\Zd E.dt L R
def Vv (E:Env) (mp:Bool) (lim:Nat) (t:FuncId ⊕ Nat) (as:List Value) (H:NB) (R:Value->NB->Prop) (_:Bx R:=⟨⟩):Prop:=
 ∃n L,Rh E n mp lim t as H=some L/\Zd E.dt L R
def NP (E:Env) (mp:Bool) (lim:Nat) (g:FuncId) (as:List Value) (H:NB) (R:Value->NB->Prop) (_:Bx R:=⟨⟩):Prop:=
 ∃n L,Rh E n mp lim (.inl g) as H=some L/\Zd E.dt L R
def XU (E:Env) (mp:Bool) (lim:Nat) (i:Nat) (as:List Value) (H:NB) (R:Value->NB->Prop) (_:Bx R:=⟨⟩):Prop:=
 ∃n L,Rh E n mp lim (.inr i) as H=some L/\Zd E.dt L R
def dT (E:Env):Env:={ E with dt:=true }
class DT (E:Env) (E':outParam Env):Prop where
 eq:dT E=E'
def RB (r:Option (Value×NB)) (f:Value->NB->Prop) (_:Bx f:=⟨⟩):Prop:=match r with | some (v,H')=>f v H' | none=>False
def nxK (dt:Bool) (r:Option (List (Value×NB))) (f:Value->NB->Prop) (_:Bx f:=⟨⟩):Prop:=match r with | some L=>Zd dt L f | none=>False
def Na6 (v:Value) (p q:Prop) (_:Bx p:=⟨⟩) (_:Bx q:=⟨⟩):Prop:=match v with | .bool true=>p | .bool false=>q | _=>False
def TJ (v:Value) (b:Bool) (p q:Prop) (_:Bx p:=⟨⟩) (_:Bx q:=⟨⟩):Prop:=match v with | .bool c=>if c=b then p else q | _=>q
theorem Mi {E:Env} {run:AFunc->Nat->List AItem->(Nat->Value)->NB->Option (List (Value×NB))}:QN (dT E) run=QN E run:=rfl
theorem Nkp (E:Env):∀n,OW (dT E) n=OW E n
 | 0=>by funext af lim k fr H;simp [OW]
 | n+1=>by
   have ih:=Nkp E n
   funext af lim k fr H
   rw [OW.eq_def,OW.eq_def E]
   simp only [ih,Mi]
theorem Nbn (E:Env) (n:Nat):Rh (dT E) n=Rh E n:=by unfold Rh;rw [Nkp,Mi]
section
variable {E:Env} {af:AFunc} {lim:Nat} {K:List AItem} {fr:Nat->Value} {H:NB} {R:Value->NB->Prop}
theorem QZ.succ {k k1:List AItem} {fr fr1:Nat->Value} {H H1:NB} (h:∀n,OW E (n+1) af lim k fr H=OW E n af lim k1 fr1 H1):QZ E af lim k fr H R=QZ E af lim k1 fr1 H1 R:=by
 apply propext
 constructor
 ·rintro ⟨n,L,a,hr⟩
  cases n with
  | zero=>simp [OW] at a
  | succ n=>rw [h] at a;exact ⟨n,L,a,hr⟩
 ·rintro ⟨n,L,a,hr⟩
  exact ⟨n+1,L,by rw [h];exact a,hr⟩
theorem SS {k:List AItem} {r:Option (Value×NB)} (h:∀n,OW E (n+1) af lim k fr H=one r):QZ E af lim k fr H R=RB r R:=by
 apply propext
 constructor
 ·rintro ⟨n,L,a,hr⟩
  cases n with
  | zero=>simp [OW] at a
  | succ n=>
    rw [h] at a
    obtain ⟨x,rfl,rfl⟩:=UD a
    rw [Ue] at hr
    exact hr
 ·intro b
  cases a:r with
  | none=>rw [a] at b;exact b.elim
  | some p=>rw [a] at b;exact ⟨1,[p],by rw [h,a];rfl,by rw [Ue];exact b⟩
theorem Nkt {k:List AItem} (h:∀n,OW E (n+1) af lim k fr H=one ((result fr H af.results).map (·,H))):QZ E af lim k fr H R=RB ((result fr H af.results).map (·,H)) R:=SS h
theorem Nud {a b}:QZ E af lim (.code (.seq a b)::K) fr H R=QZ E af lim (.code a::.code b::K) fr H R:=QZ.succ fun n=>by rw [OW.eq_def]
theorem Nsc:QZ E af lim (.code .skip::K) fr H R=QZ E af lim K fr H R:=QZ.succ fun n=>by rw [OW.eq_def]
theorem Nse {l}:QZ E af lim (.code (.ops l)::K) fr H R=QZ E af lim (.ops none l::K) fr H R:=QZ.succ fun n=>by rw [OW.eq_def]
theorem Nof {m l}:QZ E af lim (.code (.drawn m l)::K) fr H R=QZ E af lim (.ops (some H.length) l::K) fr (H++List.replicate m .dead) R:=QZ.succ fun n=>by rw [OW.eq_def]
theorem Nue:QZ E af lim (.code .ret::K) fr H R=RB ((result fr H af.results).map (·,H)) R:=Nkt fun n=>by rw [OW.eq_def]
theorem Nuf:QZ E af lim [] fr H R=RB ((result fr H af.results).map (·,H)) R:=Nkt fun n=>by rw [OW.eq_def]
theorem Noi {id b}:QZ E af lim (.code (.block id b)::K) fr H R=QZ E af lim (.code b::.inBlock id::K) fr H R:=QZ.succ fun n=>by rw [OW.eq_def]
theorem Nhc {id}:QZ E af lim (.inBlock id::K) fr H R=QZ E af lim K fr H R:=QZ.succ fun n=>by rw [OW.eq_def]
theorem Nhb {b}:QZ E af lim (.code (.loop b)::K) fr H R=QZ E af lim (.code b::.inLoop b::K) fr H R:=QZ.succ fun n=>by rw [OW.eq_def]
theorem TV {b}:QZ E af lim (.inLoop b::K) fr H R=QZ E af lim (.code b::.inLoop b::K) fr H R:=QZ.succ fun n=>by rw [OW.eq_def]
theorem Nha {b}:QZ E af lim (.ops b []::K) fr H R=QZ E af lim K fr H R:=QZ.succ fun n=>by rw [OW.eq_def]
theorem Nbu {id K'} (h:R9 id K=some K'):QZ E af lim (.code (.exit id)::K) fr H R=QZ E af lim K' fr H R:=QZ.succ fun n=>by rw [OW.eq_def];simp only [h]
theorem Nsf {c a b}:QZ E af lim (.code (.cond c a b)::K) fr H R=Na6 (ev fr c) (QZ E af lim (.code a::K) fr H R) (QZ E af lim (.code b::K) fr H R):=by
 cases hc:ev fr c with
 | bool t=>cases t<;>exact QZ.succ fun n=>by rw [OW.eq_def];simp only [hc]
 | _=>
   apply propext
   constructor
   ·rintro ⟨n,L,d,hr⟩
    cases n with
    | zero=>simp [OW] at d
    | succ n=>rw [OW.eq_def] at d;simp only [hc] at d;cases d
   ·intro h;exact h.elim
theorem QZ.det {k:List AItem} {n m:Nat} {r r':List (Value×NB)} (h:OW E n af lim k fr H=some r) (h':OW E m af lim k fr H=some r'):r=r':=by
 have h1:=UX E (Px n m) h
 have h2:=UX E (O7 n m) h'
 rw [h1] at h2;exact Option.some.inj h2
def Zz:AOp->Bool
 | .call ..=>true
 | _=>false
def dOk (N:Nat):Option Nat->Bool
 | none=>true
 | some d=>decide (d<N)
def Nlg (d:Option Nat) (fr:Nat->Value) (v:Value):Nat->Value:=match d with | none=>fr | some d=>upd fr d v
def gK (N:Nat) (fr:Nat->Value) (g:Option (Nat×Bool)) (p q:Prop) (_:Bx p:=⟨⟩) (_:Bx q:=⟨⟩):Prop:=match RF N fr g with | none=>False | some true=>p | some false=>q
def oK (E:Env) (lim:Nat) (base:Option Nat) (dest:Option Nat) (mask:List Nat) (o:AOp) (fr:Nat->Value) (H:NB) (Q:Value->NB->Prop) (_:Bx Q:=⟨⟩):Prop:=
 match base with
 | none=>∃n L,Ug (Rh E n) lim ⟨none,none,o,dest,mask⟩ (ev fr) H=some L/\Zd E.dt L Q
 | some b=>∃n v H',Rj (det (Rh E n)) lim (dest.map (b+·)) o (ev fr) (NN b mask H)=some (v,H')/\Q v (NL b mask H H')
theorem YF {N:Nat} {d:Option Nat} (h:dOk N d=true) (v:Value):WQ N fr d v=some (Nlg d fr v):=by
 cases d with
 | none=>rfl
 | some d=>simp [dOk] at h;simp [WQ,Nlg,h]
theorem Nug {L:List ((Nat->Value)×NB)} {k:List AItem} (h:∀r∈L,QZ E af lim k r.1 r.2 R):∃N,∀r∈L,∃s,OW E N af lim k r.1 r.2=some s/\Zd E.dt s R:=by
 induction L with
 | nil=>exact ⟨0,fun r hr=>by cases hr⟩
 | cons x L ih=>
   obtain ⟨N,c⟩:=ih fun r hr=>h r (by simp [hr])
   obtain ⟨n,s,h1,h2⟩:=h x (by simp)
   refine ⟨max N n,fun r hr=>?_⟩
   rcases Nh.1 hr with rfl | hr
   ·exact ⟨s,UX E (O7 N n) h1,h2⟩
   ·obtain ⟨s',a,b⟩:=c r hr
    exact ⟨s',UX E (Px N n) a,b⟩
theorem X0 {α β:Type} {f:α->Option (List β)} {l:List α} {r:List β} (h:TG f l=some r) (e:∀x∈l,∀s,f x=some s->s≠[]) {y:β} (hr:r=[y]):∃x,l=[x]:=by
 cases l with
 | nil=>simp [TG] at h;rw [<-h] at hr;cases hr
 | cons a l=>
   cases l with
   | nil=>exact ⟨a,rfl⟩
   | cons b l=>
     simp only [TG] at h
     split at h
     ·rename_i s t i d
      split at d
      ·rename_i g k c j
       cases d
       cases h
       have h1:=e a (by simp) s i
       have h2:=e b (by simp) g c
       cases s with
       | nil=>exact absurd rfl h1
       | cons _ s=>
         cases g with
         | nil=>exact absurd rfl h2
         | cons _ _=>simp at hr
      ·cases d
     ·cases h
theorem Nog {x:AIns} {l:List AIns}:QZ E af lim (.ops none (x::l)::K) fr H R=∃n L,Yg (Rh E n) af.ntmps lim x fr H=some L/\(E.dt=true->∃y,L=[y])/\∀r∈L,QZ E af lim (.ops none l::K) r.1 r.2 R:=by
 apply propext
 constructor
 ·rintro ⟨n,L,b,hr⟩
  cases n with
  | zero=>simp [OW] at b
  | succ n=>
    rw [OW.eq_def] at b
    simp only at b
    split at b
    ·rename_i L0 h1
     refine ⟨n,L0,h1,fun g=>?_,fun r c=>?_⟩
     ·obtain ⟨y,k⟩:=hr.1 g
      exact X0 b (fun x _ s a=>X4 E _ _ _ _ _ _ _ a) k
     ·obtain ⟨s,a,i⟩:=U0 b r c
      refine ⟨n,s,a,fun g=>?_,fun q o=>hr.2 q (i q o)⟩
      obtain ⟨y,k⟩:=hr.1 g
      obtain ⟨z,t⟩:=X0 b (fun x _ s a=>X4 E _ _ _ _ _ _ _ a) k
      subst t
      rw [Ng] at c
      subst c
      simp only [TG,a,Option.some.injEq,Nb] at b
      exact ⟨y,b.trans k⟩
    ·cases b
 ·rintro ⟨n,L0,h1,g,h2⟩
  obtain ⟨N,m⟩:=Nug h2
  have e:Yg (QN E (OW E (max n N))) af.ntmps lim x fr H=some L0:=Z0 (Vu E (Px n N)) h1
  obtain ⟨L,j⟩:=Wo (f:=fun r:(Nat->Value)×NB=>OW E (max n N) af lim (.ops none l::K) r.1 r.2) (l:=L0) fun r hr=>by
   obtain ⟨s,a,_⟩:=m r hr
   exact ⟨s,UX E (O7 n N) a⟩
  refine ⟨max n N+1,L,by rw [OW.eq_def];simp only [e,j],fun h=>?_,fun q o=>?_⟩
  ·obtain ⟨y,rfl⟩:=g h
   obtain ⟨s,a,ho⟩:=m y (by simp)
   have d:=UX E (O7 n N) a
   simp only [TG,d,Option.some.injEq,Nb] at j
   obtain ⟨z,t⟩:=ho.1 h
   exact ⟨z,by rw [<-j,t]⟩
  ·obtain ⟨r,hr,s,a,p⟩:=U1 j q o
   obtain ⟨s',d,ho⟩:=m r hr
   have:=QZ.det a d
   subst this
   exact ho.2 q p
theorem Noh {b:Nat} {x:AIns} {l:List AIns}:QZ E af lim (.ops (some b) (x::l)::K) fr H R=∃n,∃fr' H',Tv (det (Rh E n)) af.ntmps lim (some b) x fr H=some (fr',H')/\QZ E af lim (.ops (some b) l::K) fr' H' R:=by
 apply propext
 constructor
 ·rintro ⟨n,L,a,hr⟩
  cases n with
  | zero=>simp [OW] at a
  | succ n=>
    rw [OW.eq_def] at a
    simp only at a
    split at a
    ·rename_i fr' H1 h1
     exact ⟨n,fr',H1,h1,n,L,a,hr⟩
    ·cases a
 ·rintro ⟨n,fr',H1,h1,m,L,a,hr⟩
  refine ⟨max n m+1,L, ?_,hr⟩
  rw [OW.eq_def]
  simp only
  have e:Tv (det (QN E (OW E (max n m)))) af.ntmps lim (some b) x fr H=some (fr',H1):=Yh (Vu E (Px n m)).det h1
  rw [e]
  exact UX E (O7 n m) a
theorem Nu4 {base d g o dest mask l} (j:dOk af.ntmps d=true):QZ E af lim (.ops base (⟨d,g,o,dest,mask⟩::l)::K) fr H R =
  gK af.ntmps fr g (oK E lim base dest mask o fr H fun v H'=>QZ E af lim (.ops base l::K) (Nlg d fr v) H' R) (QZ E af lim (.ops base l::K) (Nlg d fr undef) H R):=by
 cases base with
 | none=>
   rw [Nog]
   unfold gK Yg
   simp only
   cases hw:RF af.ntmps fr g with
   | none=>simp
   | some t=>
     cases t with
     | false=>
       simp only [YF j,Ns,Option.some.injEq]
       apply propext
       constructor
       ·rintro ⟨n,L,rfl,_,h⟩
        exact h _ (Ng.2 rfl)
       ·intro h
        exact ⟨0,_,rfl,fun _=>⟨_,rfl⟩,fun r hr=>by rw [Ng] at hr;subst hr;exact h⟩
     | true=>
       simp only [oK]
       have k:∀n,Ug (Rh E n) lim ⟨d,g,o,dest,mask⟩ (ev fr) H=Ug (Rh E n) lim ⟨none,none,o,dest,mask⟩ (ev fr) H:=fun n=>rfl
       have m:∀L:List (Value×NB),YM (fun r:Value×NB=>(WQ af.ntmps fr d r.1).map (·,r.2)) L=some (L.map fun r=>(Nlg d fr r.1,r.2)):=fun L=>by
        induction L with
        | nil=>rfl
        | cons x L ih=>rw [YM,ih,YF j];rfl
       simp only [k]
       apply propext
       constructor
       ·rintro ⟨n,L,h1,c,h2⟩
        split at h1
        ·rename_i L0 i
         rw [m] at h1
         cases h1
         refine ⟨n,L0,i,fun he=>?_,fun r hr=>h2 _ (List.mem_map.2 ⟨r,hr,rfl⟩)⟩
         obtain ⟨y,p⟩:=c he
         cases L0 with
         | nil=>cases p
         | cons a L0=>
           cases L0 with
           | nil=>exact ⟨a,rfl⟩
           | cons b L0=>simp at p
        ·cases h1
       ·rintro ⟨n,L0,h1,c,h2⟩
        refine ⟨n,L0.map fun r=>(Nlg d fr r.1,r.2),by rw [h1];exact m L0,fun he=>?_,fun r hr=>?_⟩
        ·obtain ⟨y,rfl⟩:=c he
         exact ⟨_,rfl⟩
        ·obtain ⟨q,z,rfl⟩:=List.mem_map.1 hr
         exact h2 q z
 | some b=>
   rw [Noh]
   unfold gK Tv SL
   simp only
   cases hw:RF af.ntmps fr g with
   | none=>simp
   | some t=>
     cases t with
     | false=>
       simp only [Nc,Prod.mk.injEq,YF j]
       apply propext
       constructor
       ·rintro ⟨n,fr',H',⟨f,h1,h2,u⟩,e⟩
        cases h1;subst h2 u;exact e
       ·intro h
        exact ⟨0,_,_,⟨_,rfl,rfl,rfl⟩,h⟩
     | true=>
       simp only [oK]
       apply propext
       constructor
       ·rintro ⟨n,fr',H',h1,e⟩
        split at h1
        ·rename_i v H1 i
         split at i
         ·rename_i v' s w
          cases i
          rw [YF j] at h1
          simp only [Ns,Option.some.injEq,Prod.mk.injEq] at h1
          obtain ⟨rfl,rfl⟩:=h1
          exact ⟨n,v,s,w,e⟩
         ·cases i
        ·cases h1
       ·rintro ⟨n,v,H',h1,e⟩
        refine ⟨n,_,_, ?_,e⟩
        rw [h1]
        simp only [YF j,Ns]
theorem Nts {N:Nat} {p q:Prop}:gK N fr none p q=p:=rfl
theorem Ntr {N g:Nat} {b:Bool} {p q:Prop} (h:g<N):gK N fr (some (g,b)) p q=TJ (fr g) b p q:=by
 unfold gK RF TJ
 simp only [h,if_true]
 cases fr g<;>simp
 rename_i c
 cases c<;>cases b<;>simp
variable {base dest:Option Nat} {mask:List Nat} {o:AOp} {Q:Value->NB->Prop}
theorem Nk7 {C:TH} {ρ:Operand->Value} (h:Zz o=false):Rj C lim dest o ρ H=NH lim dest o ρ H:=by
 cases o<;>first | rfl | (simp [Zz] at h)
theorem No9 {C:Tf} {ρ:Operand->Value} (h:Zz o=false):Ug C lim ⟨none,none,o,none,mask⟩ ρ H=(NH lim none o ρ H).map fun r=>[r]:=by
 unfold Ug
 cases o<;>first | rfl | (simp [Zz] at h)
theorem OX (h:Zz o=false):oK E lim none none mask o fr H Q=RB (NH lim none o (ev fr) H) Q:=by
 unfold oK RB
 simp only [No9 h]
 cases NH lim none o (ev fr) H with
 | none=>simp
 | some p=>exact propext ⟨by rintro ⟨_,_,h,q⟩;cases h;rw [Ue] at q;exact q,fun q=>⟨0,_,rfl,by rw [Ue];exact q⟩⟩
theorem OE {b:Nat} (h:Zz o=false):oK E lim (some b) dest mask o fr H Q=RB (NH lim (dest.map (b+·)) o (ev fr) (NN b mask H)) fun v H'=>Q v (NL b mask H H'):=by
 unfold oK RB
 simp only [Nk7 h]
 cases NH lim (dest.map (b+·)) o (ev fr) (NN b mask H) with
 | none=>simp
 | some p=>exact propext ⟨by rintro ⟨_,_,_,h,q⟩;cases h;exact q,fun q=>⟨0,_,_,rfl,q⟩⟩
theorem Nqg {x:Operand}:oK E lim none (some 1) mask (.mov x) fr H Q=RB (VL (ev fr x) H) Q:=by
 unfold oK RB Ug MM
 simp only
 cases VL (ev fr x) H with
 | none=>simp
 | some p=>exact propext ⟨by rintro ⟨_,_,h,q⟩;cases h;rw [Ue] at q;exact q,fun q=>⟨0,_,rfl,by rw [Ue];exact q⟩⟩
theorem Ns7 {x:Operand}:oK E lim none (some 2) mask (.mov x) fr H Q=nxK E.dt (Nbl lim (ev fr x) H) Q:=by
 unfold oK nxK Ug MM
 simp only
 cases Nbl lim (ev fr x) H with
 | none=>simp
 | some L=>exact propext ⟨by rintro ⟨_,_,h,q⟩;cases h;exact q,fun q=>⟨0,_,rfl,q⟩⟩
theorem Nqi {x:Operand}:oK E lim none (some 3) mask (.mov x) fr H Q=RB (Nbm (ev fr x) H) Q:=by
 unfold oK RB Ug MM
 simp only
 cases Nbm (ev fr x) H with
 | none=>simp
 | some p=>exact propext ⟨by rintro ⟨_,_,h,q⟩;cases h;rw [Ue] at q;exact q,fun q=>⟨0,_,rfl,by rw [Ue];exact q⟩⟩
def Nen (c:Option ((FuncId ⊕ Nat)×List Value)) (f:FuncId ⊕ Nat->List Value->Prop) (_:Bx f:=⟨⟩):Prop:=match c with | some (g,as)=>f g as | none=>False
theorem ZC {mp:Bool} {g:FuncId} {as:List Value}:Vv E mp lim (.inl g) as H Q=NP E mp lim g as H Q:=rfl
theorem Ndh {mp:Bool} {i:Nat} {as:List Value}:Vv E mp lim (.inr i) as H Q=XU E mp lim i as H Q:=rfl
theorem Nni {g:FuncId ⊕ Nat} {as:List Value} {f:FuncId ⊕ Nat->List Value->Prop}:Nen (some (g,as)) f=f g as:=rfl
theorem Npn:CM.any.isPure=false:=id rfl
theorem Nlh:CM.pure.isPure=true:=id rfl
theorem Nsr:CM.mk.isPure=false:=id rfl
def CM.free:CM->Bool
 | .maps | .recs _=>false
 | _=>true
theorem Nrk:CM.free .any=true:=id rfl
theorem Nmn:CM.free .pure=true:=id rfl
theorem Ntt:CM.free .mk=true:=id rfl
theorem Niz {H:NB} {p:Addr}:loadX none H p=loadCell H p:=id rfl
theorem Niy {H:NB} {p:Addr} {k:Nat}:loadX (some k) H p=(loadCells H p k).map fun c=>.agg c.toArray:=id rfl
theorem Ni3 {ro:Bool} {p:Option Addr} {l:List Value}:SC false (.cells ro (.pointer p::l))=true:=id rfl
theorem Ned {ro:Bool} {p:Option Addr} {n c:Nat} {l:List Value}:SC false (.cells ro (.slice p n c::l))=true:=id rfl
theorem Ni4 {ro:Bool} {k:IntKind} {n:Int} {l:List Value}:SC false (.cells ro (.int k n::l))=SC false (.cells ro l):=id rfl
theorem Ntc {H:NB}:CM.any.lim lim H=lim:=id rfl
theorem Nqs {H:NB}:CM.pure.lim lim H=lim:=id rfl
theorem Nvq {H:NB}:CM.mk.lim lim H=H.length:=id rfl
theorem Nak {mp:CM} (a:mp.free=true) {H:NB}:∀L:List (Value×NB),YM (fun r=>UO mp H (some r)) L=some L
 | []=>rfl
 | x::L=>by
   have e:UO mp H (some x)=some x:=by cases mp<;>first | rfl | cases a
   simp only [YM,e,Nak a L]
theorem Ns8 {mp:CM} {f:Operand} {args:List Operand} (a:mp.free=true):oK E lim none none mask (.call mp f args) fr H Q=Nen (NC (ev fr f) (args.map (ev fr))) fun g as=>Vv E mp.isPure (mp.lim lim H) g as H Q:=by
 unfold oK Nen Vv
 simp only [Ug,WI]
 cases NC (ev fr f) (args.map (ev fr)) with
 | none=>simp
 | some p=>
   obtain ⟨g,as⟩:=p
   simp only
   apply propext
   constructor
   ·rintro ⟨n,L,h,q⟩
    split at h
    ·rename_i L0 h0
     rw [Nak a] at h
     cases h
     exact ⟨n,L,h0,q⟩
    ·cases h
   ·rintro ⟨n,L,h,q⟩
    exact ⟨n,L,by rw [h];exact Nak a L,q⟩
theorem YX {C:Tf} {mp:Bool} {t:FuncId ⊕ Nat} {as:List Value} {p:Value×NB}:det C mp lim t as H=some p↔C mp lim t as H=some [p]:=by
 unfold det
 constructor
 ·exact fun h=>SA h
 ·intro h;rw [h];rfl
theorem Nqj {E':Env} [hE:DT E E'] {b:Nat} {mp:CM} {f:Operand} {args:List Operand} (a:mp.free=true):oK E lim (some b) dest mask (.call mp f args) fr H Q=Nen (NC (ev fr f) (args.map (ev fr))) fun g as=>Vv E' mp.isPure (mp.lim lim (NN b mask H)) g as (NN b mask H) fun v H'=>Q v (NL b mask H H'):=by
 obtain rfl:=hE.eq
 unfold oK Nen Rj Vv
 simp only
 cases NC (ev fr f) (args.map (ev fr)) with
 | none=>simp
 | some p=>
   obtain ⟨g,as⟩:=p
   have e:∀r,UO mp (NN b mask H) r=r:=fun r=>by cases mp<;>first | rfl | cases a
   simp only [e,YX,Nbn]
   apply propext
   constructor
   ·rintro ⟨n,v,H',h,q⟩
    exact ⟨n,_,h,by rw [Ul];exact q⟩
   ·rintro ⟨n,L,h,q⟩
    obtain ⟨⟨v,H'⟩,rfl⟩:=q.1 rfl
    rw [Ul] at q
    exact ⟨n,v,H',h,q⟩
theorem Nqh {E':Env} [hE:DT E E'] {b:Nat} {f:Operand} {args:List Operand}:oK E lim (some b) dest mask (.call .maps f args) fr H Q=Nen (NC (ev fr f) (args.map (ev fr))) fun g as=>Vv E' false lim g as (NN b mask H) fun v H'=>Uz (NN b mask H) H'=true/\Q v (NL b mask H H'):=by
 obtain rfl:=hE.eq
 unfold oK Nen Vv
 simp only [Rj]
 cases NC (ev fr f) (args.map (ev fr)) with
 | none=>simp
 | some p=>
   obtain ⟨g,as⟩:=p
   simp only [Nbn]
   apply propext
   constructor
   ·rintro ⟨n,v,H',h,q⟩
    obtain ⟨h1,h2⟩:=SN h
    exact ⟨n,_,YX.1 h1,by rw [Ul];exact ⟨h2 rfl,q⟩⟩
   ·rintro ⟨n,L,h1,q⟩
    obtain ⟨⟨v,H'⟩,rfl⟩:=q.1 rfl
    rw [Ul] at q
    obtain ⟨h2,q⟩:=q
    refine ⟨n,v,H', ?_,q⟩
    show UO .maps (NN b mask H) (det (Rh E n) false lim g as (NN b mask H))=some (v,H')
    rw [YX.2 h1]
    simp only [UO,Nk h2]
theorem Nqf {E':Env} [hE:DT E E'] {m:Bool} {b:Nat} {f:Operand} {args:List Operand}:oK E lim (some b) dest mask (.call (.recs m) f args) fr H Q=Nen (NC (ev fr f) (args.map (ev fr))) fun g as=>Vv E' false lim g as (NN b mask H) fun v H'=>Vj m (NN b mask H) H'=true/\Q v (NL b mask H H'):=by
 obtain rfl:=hE.eq
 unfold oK Nen Vv
 simp only [Rj]
 cases NC (ev fr f) (args.map (ev fr)) with
 | none=>simp
 | some p=>
   obtain ⟨g,as⟩:=p
   simp only [Nbn]
   apply propext
   constructor
   ·rintro ⟨n,v,H',h,q⟩
    have h2:=Z4 h
    exact ⟨n,_,YX.1 (SN h).1,by rw [Ul];exact ⟨h2,q⟩⟩
   ·rintro ⟨n,L,h1,q⟩
    obtain ⟨⟨v,H'⟩,rfl⟩:=q.1 rfl
    rw [Ul] at q
    obtain ⟨h2,q⟩:=q
    refine ⟨n,v,H', ?_,q⟩
    show UO (.recs m) (NN b mask H) (det (Rh E n) false lim g as (NN b mask H))=some (v,H')
    rw [YX.2 h1]
    simp only [UO,Nk h2]
theorem Vv.all {mp:Bool} {t:FuncId ⊕ Nat} {as:List Value} {n:Nat} {L:List (Value×NB)} (h:Rh E n mp lim t as H=some L):Vv E mp lim t as H Q=Zd E.dt L Q:=by
 apply propext
 constructor
 ·rintro ⟨m,b,h1,h2⟩
  have e1:=Vu E (Px n m) _ _ _ _ _ _ h
  have e2:=Vu E (O7 n m) _ _ _ _ _ _ h1
  rw [e1] at e2;cases e2;exact h2
 ·exact fun a=>⟨n,L,h,a⟩
theorem NP.det {mp:Bool} {g:FuncId} {as:List Value} {n:Nat} {v:Value} {H':NB} (h:Rh E n mp lim (.inl g) as H=some [(v,H')]):NP E mp lim g as H Q=Q v H':=by
 rw [<-ZC,Vv.all h,Ul]
theorem Ndj {mp:Bool} {g:FuncId} {as:List Value} {v:Value} (ho:E.orc g as=none/\E.eff g as H=none) (d:E.tr g=some af) (hp:E.pure g=true) (c:olds H.length 4 v=true) (h:QZ E af H.length [.code af.body] (ND as) H fun v' _=>v'=v):NP E mp lim g as H Q=Q v H:=by
 obtain ⟨n,L,h1,e,h2⟩:=h
 have b:=X4 E _ _ _ _ _ _ _ h1
 cases L with
 | nil=>exact absurd rfl b
 | cons x L=>
   obtain ⟨v',H'⟩:=x
   have e1:v'=v:=h2 _ (Oy)
   subst e1
   have a:(L.all fun r=>Rw v' r.1)=true:=N2.2 fun r hr=>by
    have:r.1=v':=h2 r (Od _ hr)
    rw [this];exact XV v'
   exact NP.det (n:=n) (by unfold Rh QN;simp only [ho.1,ho.2,d,hp,if_true,h1,a,c])
theorem Nbx {mp:Bool} {g:FuncId} {as:List Value} {v:Value} (ho:E.orc g as=none/\E.eff g as H=none) (b:E.tr g=some af) (hp:E.pure g=true) (a:flat 4 v=true) (h:QZ E af H.length [.code af.body] (ND as) H fun v' _=>v'=v):NP E mp lim g as H Q=Q v H:=
 Ndj ho b hp (VW 4 a) h
theorem Ndi {mp:Bool} {g:FuncId} {as:List Value} {v:Value} (ho:E.orc g as=some v) (a:as.all atom=true) (b:flat 4 v=true):NP E mp lim g as H Q=Q v H:=
 NP.det (n:=0) (by unfold Rh QN;simp only [ho,a,b,Bool.and_self,if_true])
theorem X6 {mp:Bool} {g:FuncId} {as:List Value} (ho:E.orc g as=none/\E.eff g as H=none) (b:E.tr g=some af) (hp:E.pure g=false) (a:mp=false):NP E mp lim g as H Q=QZ E af lim [.code af.body] (ND as) H Q:=by
 unfold NP QZ Rh QN
 simp only [ho.1,ho.2,b,hp,a,No,if_false]
theorem Noo {g:FuncId} {as:List Value} {r:Value×List (List Value)×Option (Nat×List Value)} (ho:E.orc g as=none) (he:E.eff g as H=some r) (a:Ncm lim H r.2.2=true):NP E false lim g as H Q=Q r.1 (Nji H r.2):=
 NP.det (n:=0) (by unfold Rh QN;simp only [ho,he,a,Ok,Bool.or_self,No,if_false])
end
section
variable {E:Env} {af:AFunc} {lim:Nat} {K:List AItem} {fr fr':Nat->Value} {H H':NB} {R:Value->NB->Prop}
theorem Npu {v:Value} {f:Value->NB->Prop}:RB (some (v,H)) f=f v H:=rfl
theorem upd_same {d:Nat} {v:Value}:upd fr d v d=v:=by simp [upd]
theorem upd_ne {d t:Nat} {v:Value} (h:t≠d):upd fr d v t=fr t:=by simp [upd,h]
theorem Nvx {t:Nat}:ev fr (.tmp t)=fr t:=rfl
theorem Nrr {v:Value}:ev fr (.const v)=v:=rfl
theorem Ntx {f:FuncId}:ev fr (.func f)=.func (.func f) #[] #[]:=rfl
theorem NZ {X:NB} {j:Nat} (h:j<H.length):NF (H++X) j=NF H j:=by
 unfold NF;rw [Na,Na,Ny h]
theorem NK {X:NB} {j:Nat}:NF (H++X) (H.length+j)=X.getD j .dead:=by
 unfold NF;rw [Na,Na,N0 (by omega)];simp
theorem NU {X:NB}:NF (H++X) H.length=X.getD 0 .dead:=NK (j:=0)
theorem VQ {X:NB} {j:Nat} {b:Blk}:(H++X).set (H.length+j) b=H++X.set j b:=by
 rw [P7 _ _ (by omega)];simp
theorem Y6 {X:NB} {b:Blk}:(H++X).set H.length b=H++X.set 0 b:=VQ (j:=0)
theorem Nqp {b:Nat}:NN b [] H=H:=rfl
theorem Nhk {b:Nat} {H0:NB}:NL b [] H0 H=H:=rfl
end
section
variable {E:Env} {lim b:Nat} {dest:Option Nat} {mask:List Nat} {fr:Nat->Value} {H:NB} {Q:Value->NB->Prop}
theorem Nvh {a:Operand}:oK E lim none none mask (.mov a) fr H Q=RB (NH lim none (.mov a) (ev fr) H) Q:=OX rfl
theorem Nvl {a:Operand}:oK E lim (some b) dest mask (.mov a) fr H Q=RB (NH lim (dest.map (b+·)) (.mov a) (ev fr) (NN b mask H)) fun v H'=>Q v (NL b mask H H'):=OE rfl
theorem Nsx {c a b:Operand}:oK E lim none none mask (.pick c a b) fr H Q=RB (NH lim none (.pick c a b) (ev fr) H) Q:=OX rfl
theorem Ns2 {d a c:Operand}:oK E lim (some b) dest mask (.pick d a c) fr H Q=RB (NH lim (dest.map (b+·)) (.pick d a c) (ev fr) (NN b mask H)) fun v H'=>Q v (NL b mask H H'):=OE rfl
theorem Nvk {a:BinOp} {b c:Operand}:oK E lim none none mask (.bin a b c) fr H Q=RB (NH lim none (.bin a b c) (ev fr) H) Q:=OX rfl
theorem Nvo {a:BinOp} {c d:Operand}:oK E lim (some b) dest mask (.bin a c d) fr H Q=RB (NH lim (dest.map (b+·)) (.bin a c d) (ev fr) (NN b mask H)) fun v H'=>Q v (NL b mask H H'):=OE rfl
theorem Nvi {a:Bool} {b:EqKind} {c d:Operand}:oK E lim none none mask (.eqv a b c d) fr H Q=RB (NH lim none (.eqv a b c d) (ev fr) H) Q:=OX rfl
theorem Nvm {a:Bool} {c:EqKind} {d e:Operand}:oK E lim (some b) dest mask (.eqv a c d e) fr H Q=RB (NH lim (dest.map (b+·)) (.eqv a c d e) (ev fr) (NN b mask H)) fun v H'=>Q v (NL b mask H H'):=OE rfl
theorem Nxg {a:UnOp} {b:Operand}:oK E lim none none mask (.un a b) fr H Q=RB (NH lim none (.un a b) (ev fr) H) Q:=OX rfl
theorem Nxi {a:UnOp} {c:Operand}:oK E lim (some b) dest mask (.un a c) fr H Q=RB (NH lim (dest.map (b+·)) (.un a c) (ev fr) (NN b mask H)) fun v H'=>Q v (NL b mask H H'):=OE rfl
theorem Ns0 {a:IntKind} {b:Operand}:oK E lim none none mask (.conv a b) fr H Q=RB (NH lim none (.conv a b) (ev fr) H) Q:=OX rfl
theorem Ns5 {a:IntKind} {c:Operand}:oK E lim (some b) dest mask (.conv a c) fr H Q=RB (NH lim (dest.map (b+·)) (.conv a c) (ev fr) (NN b mask H)) fun v H'=>Q v (NL b mask H H'):=OE rfl
theorem Np3 {a:List Value}:oK E lim none none mask (.alloc a) fr H Q=RB (NH lim none (.alloc a) (ev fr) H) Q:=OX rfl
theorem Nqe {a:List Value}:oK E lim (some b) dest mask (.alloc a) fr H Q=RB (NH lim (dest.map (b+·)) (.alloc a) (ev fr) (NN b mask H)) fun v H'=>Q v (NL b mask H H'):=OE rfl
theorem Nvj {a:Operand}:oK E lim none none mask (.box a) fr H Q=RB (NH lim none (.box a) (ev fr) H) Q:=OX rfl
theorem Nvn {a:Operand}:oK E lim (some b) dest mask (.box a) fr H Q=RB (NH lim (dest.map (b+·)) (.box a) (ev fr) (NN b mask H)) fun v H'=>Q v (NL b mask H H'):=OE rfl
theorem Np2 {b:List Value} {a:List (Nat×Nat×Operand)}:oK E lim none none mask (.build b a) fr H Q=RB (NH lim none (.build b a) (ev fr) H) Q:=OX rfl
theorem Nqd {c:List Value} {a:List (Nat×Nat×Operand)}:oK E lim (some b) dest mask (.build c a) fr H Q=RB (NH lim (dest.map (b+·)) (.build c a) (ev fr) (NN b mask H)) fun v H'=>Q v (NL b mask H H'):=OE rfl
theorem Nb3 {c:Nat} {b:List Value} {a:List (Nat×Nat×Operand)}:oK E lim none none mask (.buildSlice c b a) fr H Q=RB (NH lim none (.buildSlice c b a) (ev fr) H) Q:=OX rfl
theorem Nb5 {d:Nat} {c:List Value} {a:List (Nat×Nat×Operand)}:oK E lim (some b) dest mask (.buildSlice d c a) fr H Q=RB (NH lim (dest.map (b+·)) (.buildSlice d c a) (ev fr) (NN b mask H)) fun v H'=>Q v (NL b mask H H'):=OE rfl
theorem Npz {a:Operand}:oK E lim none none mask (.load1 a) fr H Q=RB (NH lim none (.load1 a) (ev fr) H) Q:=OX rfl
theorem Nqa {a:Operand}:oK E lim (some b) dest mask (.load1 a) fr H Q=RB (NH lim (dest.map (b+·)) (.load1 a) (ev fr) (NN b mask H)) fun v H'=>Q v (NL b mask H H'):=OE rfl
theorem Npy {b:Nat} {a:Operand}:oK E lim none none mask (.loadN b a) fr H Q=RB (NH lim none (.loadN b a) (ev fr) H) Q:=OX rfl
theorem Np7 {c:Bool} {d:Option Nat} {a:Operand}:oK E lim (some b) dest mask (.loadR c d a) fr H Q=RB (NH lim (dest.map (b+·)) (.loadR c d a) (ev fr) (NN b mask H)) fun v H'=>Q v (NL b mask H H'):=OE rfl
theorem Np9 {c:Nat} {a:Operand}:oK E lim (some b) dest mask (.loadN c a) fr H Q=RB (NH lim (dest.map (b+·)) (.loadN c a) (ev fr) (NN b mask H)) fun v H'=>Q v (NL b mask H H'):=OE rfl
theorem Np8 {d:Option Nat} {a c:Operand}:oK E lim (some b) dest mask (.loadO d a c) fr H Q=RB (NH lim (dest.map (b+·)) (.loadO d a c) (ev fr) (NN b mask H)) fun v H'=>Q v (NL b mask H H'):=OE rfl
theorem Nlu {c:Nat} {a d:Operand}:oK E lim (some b) dest mask (.storeN c a d) fr H Q=RB (NH lim (dest.map (b+·)) (.storeN c a d) (ev fr) (NN b mask H)) fun v H'=>Q v (NL b mask H H'):=OE rfl
theorem Nlt {d:Nat} {a e c:Operand}:oK E lim (some b) dest mask (.storeO d a e c) fr H Q=RB (NH lim (dest.map (b+·)) (.storeO d a e c) (ev fr) (NN b mask H)) fun v H'=>Q v (NL b mask H H'):=OE rfl
theorem Nlv {b c:Nat} {a d:Operand}:oK E lim (some b) dest mask (.storeD c a d) fr H Q=RB (NH lim (dest.map (b+·)) (.storeD c a d) (ev fr) (NN b mask H)) fun v H'=>Q v (NL b mask H H'):=OE rfl
theorem Npx {b:Nat} {a c:Operand}:oK E lim none none mask (.store b a c) fr H Q=RB (NH lim none (.store b a c) (ev fr) H) Q:=OX rfl
theorem Np6 {c:Nat} {a d:Operand}:oK E lim (some b) dest mask (.store c a d) fr H Q=RB (NH lim (dest.map (b+·)) (.store c a d) (ev fr) (NN b mask H)) fun v H'=>Q v (NL b mask H H'):=OE rfl
theorem Nfr {a:Operand}:oK E lim none none mask (.nilCheck a) fr H Q=RB (NH lim none (.nilCheck a) (ev fr) H) Q:=OX rfl
theorem Nf3 {a:Operand}:oK E lim (some b) dest mask (.nilCheck a) fr H Q=RB (NH lim (dest.map (b+·)) (.nilCheck a) (ev fr) (NN b mask H)) fun v H'=>Q v (NL b mask H H'):=OE rfl
theorem Nd2 {a:Nat} {b:Operand}:oK E lim none none mask (.fieldAddr a b) fr H Q=RB (NH lim none (.fieldAddr a b) (ev fr) H) Q:=OX rfl
theorem Nd6 {a:Nat} {c:Operand}:oK E lim (some b) dest mask (.fieldAddr a c) fr H Q=RB (NH lim (dest.map (b+·)) (.fieldAddr a c) (ev fr) (NN b mask H)) fun v H'=>Q v (NL b mask H H'):=OE rfl
theorem Nlq {a:Nat} {b:Operand}:oK E lim none none mask (.field1 a b) fr H Q=RB (NH lim none (.field1 a b) (ev fr) H) Q:=OX rfl
theorem Nl3 {a:Nat} {c:Operand}:oK E lim (some b) dest mask (.field1 a c) fr H Q=RB (NH lim (dest.map (b+·)) (.field1 a c) (ev fr) (NN b mask H)) fun v H'=>Q v (NL b mask H H'):=OE rfl
theorem Nlp {a b:Nat} {c:Operand}:oK E lim none none mask (.fieldN a b c) fr H Q=RB (NH lim none (.fieldN a b c) (ev fr) H) Q:=OX rfl
theorem Nl2 {a c:Nat} {d:Operand}:oK E lim (some b) dest mask (.fieldN a c d) fr H Q=RB (NH lim (dest.map (b+·)) (.fieldN a c d) (ev fr) (NN b mask H)) fun v H'=>Q v (NL b mask H H'):=OE rfl
theorem Nfw {b a:Nat} {d c:Operand}:oK E lim none none mask (.idxAddrA b a d c) fr H Q=RB (NH lim none (.idxAddrA b a d c) (ev fr) H) Q:=OX rfl
theorem Nf8 {c a:Nat} {e d:Operand}:oK E lim (some b) dest mask (.idxAddrA c a e d) fr H Q=RB (NH lim (dest.map (b+·)) (.idxAddrA c a e d) (ev fr) (NN b mask H)) fun v H'=>Q v (NL b mask H H'):=OE rfl
theorem Nsz {c b:Nat} {a:Bool} {e d:Operand}:oK E lim none none mask (.idxA c b a e d) fr H Q=RB (NH lim none (.idxA c b a e d) (ev fr) H) Q:=OX rfl
theorem Ns4 {d c:Nat} {a:Bool} {f e:Operand}:oK E lim (some b) dest mask (.idxA d c a f e) fr H Q=RB (NH lim (dest.map (b+·)) (.idxA d c a f e) (ev fr) (NN b mask H)) fun v H'=>Q v (NL b mask H H'):=OE rfl
theorem Nlo {b a:Operand}:oK E lim none none mask (.idxStr b a) fr H Q=RB (NH lim none (.idxStr b a) (ev fr) H) Q:=OX rfl
theorem Nl1 {c a:Operand}:oK E lim (some b) dest mask (.idxStr c a) fr H Q=RB (NH lim (dest.map (b+·)) (.idxStr c a) (ev fr) (NN b mask H)) fun v H'=>Q v (NL b mask H H'):=OE rfl
theorem Nlj {a:Nat} {e:Operand} {c b d:Option Operand}:oK E lim none none mask (.sliceS a e c b d) fr H Q=RB (NH lim none (.sliceS a e c b d) (ev fr) H) Q:=OX rfl
theorem Nlw {a:Nat} {f:Operand} {d c e:Option Operand}:oK E lim (some b) dest mask (.sliceS a f d c e) fr H Q=RB (NH lim (dest.map (b+·)) (.sliceS a f d c e) (ev fr) (NN b mask H)) fun v H'=>Q v (NL b mask H H'):=OE rfl
theorem Nfq {c:Operand} {b a:Option Operand}:oK E lim none none mask (.sliceStr c b a) fr H Q=RB (NH lim none (.sliceStr c b a) (ev fr) H) Q:=OX rfl
theorem Nf2 {d:Operand} {c a:Option Operand}:oK E lim (some b) dest mask (.sliceStr d c a) fr H Q=RB (NH lim (dest.map (b+·)) (.sliceStr d c a) (ev fr) (NN b mask H)) fun v H'=>Q v (NL b mask H H'):=OE rfl
theorem Nlm {a:Operand}:oK E lim none none mask (.lenStr a) fr H Q=RB (NH lim none (.lenStr a) (ev fr) H) Q:=OX rfl
theorem Nlz {a:Operand}:oK E lim (some b) dest mask (.lenStr a) fr H Q=RB (NH lim (dest.map (b+·)) (.lenStr a) (ev fr) (NN b mask H)) fun v H'=>Q v (NL b mask H H'):=OE rfl
theorem Nfx {a:Operand}:oK E lim none none mask (.capSlice a) fr H Q=RB (NH lim none (.capSlice a) (ev fr) H) Q:=OX rfl
theorem Nf9 {a:Operand}:oK E lim (some b) dest mask (.capSlice a) fr H Q=RB (NH lim (dest.map (b+·)) (.capSlice a) (ev fr) (NN b mask H)) fun v H'=>Q v (NL b mask H H'):=OE rfl
theorem Nfu {a:Operand}:oK E lim none none mask (.lenSlice a) fr H Q=RB (NH lim none (.lenSlice a) (ev fr) H) Q:=OX rfl
theorem Nf6 {a:Operand}:oK E lim (some b) dest mask (.lenSlice a) fr H Q=RB (NH lim (dest.map (b+·)) (.lenSlice a) (ev fr) (NN b mask H)) fun v H'=>Q v (NL b mask H H'):=OE rfl
theorem Nln {a:Operand}:oK E lim none none mask (.lenMap a) fr H Q=RB (NH lim none (.lenMap a) (ev fr) H) Q:=OX rfl
theorem Nl0 {a:Operand}:oK E lim (some b) dest mask (.lenMap a) fr H Q=RB (NH lim (dest.map (b+·)) (.lenMap a) (ev fr) (NN b mask H)) fun v H'=>Q v (NL b mask H H'):=OE rfl
theorem Nsy {a:Nat}:oK E lim none none mask (.lenK a) fr H Q=RB (NH lim none (.lenK a) (ev fr) H) Q:=OX rfl
theorem Ns3 {a:Nat}:oK E lim (some b) dest mask (.lenK a) fr H Q=RB (NH lim (dest.map (b+·)) (.lenK a) (ev fr) (NN b mask H)) fun v H'=>Q v (NL b mask H H'):=OE rfl
theorem Nls {b a:Nat} {c:Bool} {d e:Operand}:oK E lim none none mask (.append b a c d e) fr H Q=RB (NH lim none (.append b a c d e) (ev fr) H) Q:=OX rfl
theorem Nl5 {c a:Nat} {d:Bool} {e f:Operand}:oK E lim (some b) dest mask (.append c a d e f) fr H Q=RB (NH lim (dest.map (b+·)) (.append c a d e f) (ev fr) (NN b mask H)) fun v H'=>Q v (NL b mask H H'):=OE rfl
theorem Nig {b a:Nat} {c:Bool} {d e:Operand}:oK E lim none none mask (.append0 b a c d e) fr H Q=RB (NH lim none (.append0 b a c d e) (ev fr) H) Q:=OX rfl
theorem Nin {c a:Nat} {d:Bool} {e f:Operand}:oK E lim (some b) dest mask (.append0 c a d e f) fr H Q=RB (NH lim (dest.map (b+·)) (.append0 c a d e f) (ev fr) (NN b mask H)) fun v H'=>Q v (NL b mask H H'):=OE rfl
theorem Nlk {a:Bool} {b:List Operand}:oK E lim none none mask (.minmax a b) fr H Q=RB (NH lim none (.minmax a b) (ev fr) H) Q:=OX rfl
theorem Nlx {a:Bool} {c:List Operand}:oK E lim (some b) dest mask (.minmax a c) fr H Q=RB (NH lim (dest.map (b+·)) (.minmax a c) (ev fr) (NN b mask H)) fun v H'=>Q v (NL b mask H H'):=OE rfl
theorem Nd1 {d a:Nat} {b:List Value} {e c:Operand}:oK E lim none none mask (.makeSlice d a b e c) fr H Q=RB (NH lim none (.makeSlice d a b e c) (ev fr) H) Q:=OX rfl
theorem Nd5 {e a:Nat} {c:List Value} {f d:Operand}:oK E lim (some b) dest mask (.makeSlice e a c f d) fr H Q=RB (NH lim (dest.map (b+·)) (.makeSlice e a c f d) (ev fr) (NN b mask H)) fun v H'=>Q v (NL b mask H H'):=OE rfl
theorem Nie {d a:Nat} {b:List Value} {e c:Operand}:oK E lim none none mask (.growNil d a b e c) fr H Q=RB (NH lim none (.growNil d a b e c) (ev fr) H) Q:=OX rfl
theorem Nik {e a:Nat} {c:List Value} {f d:Operand}:oK E lim (some b) dest mask (.growNil e a c f d) fr H Q=RB (NH lim (dest.map (b+·)) (.growNil e a c f d) (ev fr) (NN b mask H)) fun v H'=>Q v (NL b mask H H'):=OE rfl
theorem Nid {a:Option Operand}:oK E lim none none mask (.makeMap a) fr H Q=RB (NH lim none (.makeMap a) (ev fr) H) Q:=OX rfl
theorem Nij {a:Option Operand}:oK E lim (some b) dest mask (.makeMap a) fr H Q=RB (NH lim (dest.map (b+·)) (.makeMap a) (ev fr) (NN b mask H)) fun v H'=>Q v (NL b mask H H'):=OE rfl
theorem Nll {c:KK} {a:Value} {d:Bool} {e b:Operand}:oK E lim none none mask (.lookup c a d e b) fr H Q=RB (NH lim none (.lookup c a d e b) (ev fr) H) Q:=OX rfl
theorem Nly {d:KK} {a:Value} {e:Bool} {f c:Operand}:oK E lim (some b) dest mask (.lookup d a e f c) fr H Q=RB (NH lim (dest.map (b+·)) (.lookup d a e f c) (ev fr) (NN b mask H)) fun v H'=>Q v (NL b mask H H'):=OE rfl
theorem Nd0 {b:KK} {c a d:Operand}:oK E lim none none mask (.mapUpdate b c a d) fr H Q=RB (NH lim none (.mapUpdate b c a d) (ev fr) H) Q:=OX rfl
theorem Nd4 {c:KK} {d a e:Operand}:oK E lim (some b) dest mask (.mapUpdate c d a e) fr H Q=RB (NH lim (dest.map (b+·)) (.mapUpdate c d a e) (ev fr) (NN b mask H)) fun v H'=>Q v (NL b mask H H'):=OE rfl
theorem Nfs {b:KK} {d:Value} {c a:Operand}:oK E lim none none mask (.mapEntry b d c a) fr H Q=RB (NH lim none (.mapEntry b d c a) (ev fr) H) Q:=OX rfl
theorem Nf4 {c:KK} {e:Value} {d a:Operand}:oK E lim (some b) dest mask (.mapEntry c e d a) fr H Q=RB (NH lim (dest.map (b+·)) (.mapEntry c e d a) (ev fr) (NN b mask H)) fun v H'=>Q v (NL b mask H H'):=OE rfl
theorem Nb2 {a b c:Operand}:oK E lim none none mask (.entryStore a b c) fr H Q=RB (NH lim none (.entryStore a b c) (ev fr) H) Q:=OX rfl
theorem Nb4 {a c d:Operand}:oK E lim (some b) dest mask (.entryStore a c d) fr H Q=RB (NH lim (dest.map (b+·)) (.entryStore a c d) (ev fr) (NN b mask H)) fun v H'=>Q v (NL b mask H H'):=OE rfl
theorem Np1 {b:List Value} {a:Operand}:oK E lim none none mask (.clear b a) fr H Q=RB (NH lim none (.clear b a) (ev fr) H) Q:=OX rfl
theorem Nqc {c:List Value} {a:Operand}:oK E lim (some b) dest mask (.clear c a) fr H Q=RB (NH lim (dest.map (b+·)) (.clear c a) (ev fr) (NN b mask H)) fun v H'=>Q v (NL b mask H H'):=OE rfl
theorem Nlr {b:KK} {c a:Operand}:oK E lim none none mask (.delete b c a) fr H Q=RB (NH lim none (.delete b c a) (ev fr) H) Q:=OX rfl
theorem Nl4 {c:KK} {d a:Operand}:oK E lim (some b) dest mask (.delete c d a) fr H Q=RB (NH lim (dest.map (b+·)) (.delete c d a) (ev fr) (NN b mask H)) fun v H'=>Q v (NL b mask H H'):=OE rfl
theorem Nft {c:FuncId} {b a:List Operand}:oK E lim none none mask (.makeFunc c b a) fr H Q=RB (NH lim none (.makeFunc c b a) (ev fr) H) Q:=OX rfl
theorem Nf5 {d:FuncId} {c a:List Operand}:oK E lim (some b) dest mask (.makeFunc d c a) fr H Q=RB (NH lim (dest.map (b+·)) (.makeFunc d c a) (ev fr) (NN b mask H)) fun v H'=>Q v (NL b mask H H'):=OE rfl
theorem Nif {a:Nat} {b:Operand}:oK E lim none none mask (.extract a b) fr H Q=RB (NH lim none (.extract a b) (ev fr) H) Q:=OX rfl
theorem Nim {a:Nat} {c:Operand}:oK E lim (some b) dest mask (.extract a c) fr H Q=RB (NH lim (dest.map (b+·)) (.extract a c) (ev fr) (NN b mask H)) fun v H'=>Q v (NL b mask H H'):=OE rfl
theorem Nic {a:Operand}:oK E lim none none mask (.rowMark a) fr H Q=RB (NH lim none (.rowMark a) (ev fr) H) Q:=OX rfl
theorem Nii {a:Operand}:oK E lim (some b) dest mask (.rowMark a) fr H Q=RB (NH lim (dest.map (b+·)) (.rowMark a) (ev fr) (NN b mask H)) fun v H'=>Q v (NL b mask H H'):=OE rfl
theorem Npw {a:Operand}:oK E lim none none mask (.strId a) fr H Q=RB (NH lim none (.strId a) (ev fr) H) Q:=OX rfl
theorem Np5 {a:Operand}:oK E lim (some b) dest mask (.strId a) fr H Q=RB (NH lim (dest.map (b+·)) (.strId a) (ev fr) (NN b mask H)) fun v H'=>Q v (NL b mask H H'):=OE rfl
end
section
variable {E:Env} {af:AFunc} {lim:Nat} {K:List AItem} {fr:Nat->Value} {H:NB} {R:Value->NB->Prop}
theorem Nwv {base g o dest mask l} {d:Nat} (a:d<af.ntmps):QZ E af lim (.ops base (⟨some d,g,o,dest,mask⟩::l)::K) fr H R =
  gK af.ntmps fr g (oK E lim base dest mask o fr H fun v H'=>QZ E af lim (.ops base l::K) (upd fr d v) H' R) (QZ E af lim (.ops base l::K) (upd fr d undef) H R):=Nu4 (d:=some d) (by simp [dOk,a])
theorem Nww {base g o dest mask l}:QZ E af lim (.ops base (⟨none,g,o,dest,mask⟩::l)::K) fr H R =
  gK af.ntmps fr g (oK E lim base dest mask o fr H fun v H'=>QZ E af lim (.ops base l::K) fr H' R) (QZ E af lim (.ops base l::K) fr H R):=Nu4 (d:=none) rfl
end
section
variable {E:Env} {af:AFunc} {lim:Nat} {K:List AItem} {fr:Nat->Value} {H:NB} {R:Value->NB->Prop}
end
section
variable {p q:Prop} {c:Prop} [Decidable c]
theorem Nou:TJ (.bool true) true p q=p:=by simp [TJ]
theorem Noz:TJ (.bool false) false p q=p:=by simp [TJ]
theorem Nox:TJ (.bool true) false p q=q:=by simp [TJ]
theorem Noy:TJ (.bool false) true p q=q:=by simp [TJ]
theorem Nr2:Na6 (.bool true) p q=p:=rfl
theorem Nr3:Na6 (.bool false) p q=q:=rfl
theorem Nkz {b:Bool} (h1:c->TJ (.bool true) b p q) (h2:¬c->TJ (.bool false) b p q):TJ (.bool (decide c)) b p q:=by
 by_cases h:c
 ·rw [Oe h];exact h1 h
 ·rw [Oc h];exact h2 h
theorem Nm9 (h1:c->p) (h2:¬c->q):Na6 (.bool (decide c)) p q:=by
 by_cases h:c
 ·rw [Oe h];exact h1 h
 ·rw [Oc h];exact h2 h
theorem Nk0 {t b:Bool} (h1:t=true->TJ (.bool true) b p q) (h2:t=false->TJ (.bool false) b p q):TJ (.bool t) b p q:=by
 cases t
 ·exact h2 rfl
 ·exact h1 rfl
theorem Nna {t:Bool} (h1:t=true->p) (h2:t=false->q):Na6 (.bool t) p q:=by
 cases t
 ·exact h2 rfl
 ·exact h1 rfl
theorem Ntj {a b:Int}:(a == b)=decide (a=b):=by by_cases h:a=b<;>simp [h]
theorem Nti {a b:Int}:(a != b)=decide (¬a=b):=by by_cases h:a=b<;>simp [h,bne]
theorem Ns9:(!decide c)=decide (¬c):=by by_cases h:c<;>simp [h]
end
def V3 (off size:Nat) (v:Value) (c:List Value):Option (List Value):=
 if v.cells.toList.length=size/\off+size<=c.length/\NA v=true then some (Rk c off v.cells.toList) else none
def Ngu (ρ:Operand->Value) (rest:List (Nat×Nat×Operand)) (r:Option (List Value)):Option (List Value):=match r with | some c=>RJ ρ rest c | none=>none
theorem Nay {ρ:Operand->Value} {off size:Nat} {x:Operand} {rest:List (Nat×Nat×Operand)} {c:List Value}:RJ ρ ((off,size,x)::rest) c=Ngu ρ rest (V3 off size (ρ x) c):=by
 unfold Ngu V3
 simp only [RJ]
 split<;>rfl
theorem Nb9 {ρ:Operand->Value} {c:List Value}:RJ ρ [] c=some c:=rfl
theorem Nje {ρ:Operand->Value} {rest:List (Nat×Nat×Operand)} {c:List Value}:Ngu ρ rest (some c)=RJ ρ rest c:=rfl
theorem Ngt {ρ:Operand->Value} {rest:List (Nat×Nat×Operand)} {r r':Option (List Value)} (h:r=r'):Ngu ρ rest r=Ngu ρ rest r':=by rw [h]
theorem Ngs {off size:Nat} {v v':Value} {c:List Value} (h:v=v'):V3 off size v c=V3 off size v' c:=by rw [h]
attribute [congr] Ngt Ngs
theorem Vb {off:Nat} {v:Value} {c:List Value} (b:v.oneCell'=true) (a:NA v=true) (h:off<c.length):V3 off 1 v c=some (c.set off v):=by
 cases v<;>first | (simp [Value.oneCell'] at b;done) | (simp [NA] at a;done) | (unfold V3;rw [Nk ⟨by simp [Value.cells],h,a⟩];rfl)
theorem Nmx {off:Nat} {k:IntKind} {n:Int} {c:List Value} (h:off<c.length):V3 off 1 (.int k n) c=some (c.set off (.int k n)):=Vb rfl rfl h
theorem Njd {off:Nat} {b:Bool} {c:List Value} (h:off<c.length):V3 off 1 (.bool b) c=some (c.set off (.bool b)):=Vb rfl rfl h
theorem Nmy {off n:Nat} {l c:List Value} (h:l.length=n/\off+n<=c.length):V3 off n (.agg l.toArray) c=some (Rk c off l):=by
 unfold V3
 rw [Nk ⟨by simpa [Value.cells] using h.1,h.2,rfl⟩]
 rfl
theorem Nhu {c:List Value} {o:Nat}:Rk c o []=c:=rfl
theorem TZ {c:List Value} {o:Nat} {v:Value} {vs:List Value}:Rk c o (v::vs)=Rk (c.set o v) (o+1) vs:=rfl
section
variable {fr:Nat->Value} {H:NB}
theorem Nng {a:Array Value}:(Value.agg a).cells=a:=rfl
theorem Nnf {k:IntKind} {n:Int}:(Value.int k n).cells=#[.int k n]:=rfl
theorem Njo {b:Bool}:(Value.bool b).cells=#[.bool b]:=rfl
theorem Nsa {l:List Value}:l.toArray.toList=l:=rfl
theorem Nr9 {l:List Value}:l.toArray.size=l.length:=rfl
def Nr1:Option Value->Option (List Value)->Option (List Value)
 | some v,some vs=>some (v::vs)
 | _,_=>none
def Nrq:Option (List Value)->Option Value
 | some [v]=>some v
 | some vs=>some (.tuple vs.toArray)
 | none=>none
theorem Nhz:Us fr H []=some []:=rfl
theorem Nfa {r:ARes} {a:List ARes}:Us fr H (r::a)=Nr1 (NE fr H r) (Us fr H a):=by
 unfold Nr1
 simp only [Us]
 cases NE fr H r<;>cases Us fr H a<;>rfl
theorem Nhx {a:List ARes}:result fr H a=Nrq (Us fr H a):=by
 unfold Nrq result
 cases Us fr H a<;>rfl
theorem Njn {v:Value} {vs:List Value}:Nr1 (some v) (some vs)=some (v::vs):=rfl
theorem Nro {v:Value}:Nrq (some [v])=some v:=rfl
theorem Nmt {v u:Value} {vs:List Value}:Nrq (some (v::u::vs))=some (.tuple (v::u::vs).toArray):=rfl
theorem Nrp:Nrq (some [])=some (.tuple #[]):=rfl
end
def X9 (e:Nat) (x i:Value) (H:NB):Option (Value×NB):=match x,i with
    | .slice (some p) len _,.int _ n=>if 0<=n/\n<(len:Int) then some (.pointer (some (p.add (n.toNat*e))),H) else none
    | _,_=>none
theorem Ng8 {lim:Nat} {dest:Option Nat} {e:Nat} {x i:Operand} {ρ:Operand->Value} {H:NB}:NH lim dest (.idxAddrS e x i) ρ H=X9 e (ρ x) (ρ i) H:=by
 simp only [NH];unfold X9;rfl
theorem Xa {e n len c:Nat} {p:Addr} {k:IntKind} {H:NB} (h:n<len):X9 e (.slice (some p) len c) (.int k (n:Int)) H=some (.pointer (some (p.add (n*e))),H):=by
 unfold X9
 simp only
 rw [Nk ⟨by omega,by omega⟩]
 simp
section
variable {E:Env} {lim b:Nat} {dest:Option Nat} {mask:List Nat} {fr:Nat->Value} {H:NB} {Q:Value->NB->Prop}
theorem Nfv {e:Nat} {x i:Operand}:oK E lim none none mask (.idxAddrS e x i) fr H Q=RB (X9 e (ev fr x) (ev fr i) H) Q:=by rw [OX rfl,Ng8]
theorem Nf7 {e:Nat} {x i:Operand}:oK E lim (some b) dest mask (.idxAddrS e x i) fr H Q=RB (X9 e (ev fr x) (ev fr i) (NN b mask H)) fun v H'=>Q v (NL b mask H H'):=by rw [OE rfl,Ng8]
end
theorem addr_add {b o n:Nat}:(⟨b,o,none⟩:Addr).add n=⟨b,o+n,none⟩:=by
 simp only [Addr.add]
 first | rfl | (split<;>simp_all)
theorem Ra {n:Nat} (h:n+1<2 ^ 63):IntKind.i64.wrap ((n:Int)+1)=((n+1:Nat):Int):=by
 have h1:((n:Int)+1) % 2 ^ 64=(n:Int)+1:=Q0 (by omega) (by omega)
 simp only [IntKind.wrap,IntKind.bits,IntKind.signed,h1]
 rw [Ni (by simp;omega)]
 omega
section
variable {b i:Nat} {l:List Nat} {H H0:NB}
theorem Nl8:NN b (i::l) H=NN b l (H.set (b+i) .dead):=rfl
theorem Nez:NL b (i::l) H0 H=NL b l H0 (H.set (b+i) (NF H0 (b+i))):=rfl
theorem Nsw:List.replicate 1 Blk.dead=[.dead]:=rfl
theorem Npr:List.replicate 0 Blk.dead=[]:=rfl
theorem Nsv:List.replicate 2 Blk.dead=[.dead,.dead]:=rfl
theorem Nli:List.replicate 3 Blk.dead=[.dead,.dead,.dead]:=rfl
end
end Go.AM


