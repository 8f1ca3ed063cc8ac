/-
  Joined texts, 3 of 10. A part of the claim that the last text states.
-/
import Derived.Laws.IdiomRangeMap
import Derived.Below
import Derived.Test.YtkppjkkkdpcgiaaGreatPU2
set_option linter.unusedVariables false
set_option linter.unusedSimpArgs false
set_option linter.defProp false
set_option linter.unusedSectionVars false
set_option maxRecDepth 100000
set_option maxHeartbeats 4000000
namespace Go.AM
def CLe (C a:Tt):Prop:=∀mp lim g as H r,C mp lim g as H=some r->a mp lim g as H=some r
theorem Nbn {C b:Tt} (h:CLe C b) {lim:Nat} {dest:Option Nat} {o:AOp} {ρ:Operand->Value} {H:NA} {r} (hx:QZ C lim dest o ρ H=some r):QZ b lim dest o ρ H=some r:=by
 by_cases hc:∃mp f args,o=.call mp f args
 ·obtain ⟨mp,f,args,rfl⟩:=hc
  simp only [QZ] at hx⊢
  split at hx
  ·exact Nul (fun p hp=>h _ _ _ _ _ _ hp) hx
  ·cases hx
 ·have a:∀mp f args,o≠.call mp f args:=fun mp f args e=>hc ⟨mp,f,args,e⟩
  rw [OI a] at hx⊢
  exact hx
theorem ZH {C a:Tt} (h:CLe C a) {N lim:Nat} {base:Option Nat} {i:AIns} {fr:Nat->Value} {H:NA} {r} (hx:Te C N lim base i fr H=some r):Te a N lim base i fr H=some r:=by
 unfold Te at hx⊢
 cases hv:Sm C N lim base i fr H with
 | none=>rw [hv] at hx;cases hx
 | some p=>
   have:Sm a N lim base i fr H=some p:=by
    unfold Sm at hv⊢
    cases hw:Rx N fr i.guard with
    | none=>rw [hw] at hv;cases hv
    | some b=>
      rw [hw] at hv
      cases b with
      | false=>exact hv
      | true=>
        cases base with
        | none=>exact Nbn h hv
        | some b=>
          simp only at hv⊢
          cases hs:QZ C lim (i.dest.map (b+·)) i.op (ev fr) (NU b i.mask H) with
          | none=>rw [hs] at hv;cases hv
          | some q=>rw [hs] at hv;rw [Nbn h hs];exact hv
   rw [hv] at hx
   rw [this]
   exact hx
theorem YP {α β:Type} {f:α->Option β}:∀{l:List α} {r:List β},Yl f l=some r->∀y∈r,∃x∈l,f x=some y
 | [],r,h,y,hy=>by cases h;cases hy
 | x::l,r,h,y,hy=>by
   simp only [Yl] at h
   split at h
   ·rename_i a b ha c
    cases h
    rcases Nn.1 hy with rfl | hy
    ·exact ⟨x,by simp,ha⟩
    ·obtain ⟨z,d,e⟩:=YP c y hy
     exact ⟨z,by simp [d],e⟩
   ·cases h
theorem Yk {α β:Type} {f:α->Option β}:∀{l:List α} {r:List β},Yl f l=some r->∀x∈l,∃y∈r,f x=some y
 | [],r,h,x,hx=>by cases hx
 | z::l,r,h,x,hx=>by
   simp only [Yl] at h
   split at h
   ·rename_i a b ha c
    cases h
    rcases Nn.1 hx with rfl | hx
    ·exact ⟨a,by simp,ha⟩
    ·obtain ⟨y,d,e⟩:=Yk c x hx
     exact ⟨y,by simp [d],e⟩
   ·cases h
theorem UG {α β:Type} {f:α->Option (List β)}:∀{l:List α} {r:List β},Tp f l=some r->∀x∈l,∃s,f x=some s/\∀y∈s,y∈r
 | [],r,h,x,hx=>by cases hx
 | z::l,r,h,x,hx=>by
   simp only [Tp] at h
   split at h
   ·rename_i a b ha d
    cases h
    rcases Nn.1 hx with rfl | hx
    ·exact ⟨a,ha,fun y c=>by simp [c]⟩
    ·obtain ⟨s,hs,e⟩:=UG d x hx
     exact ⟨s,hs,fun y c=>by simp [e y c]⟩
   ·cases h
theorem UH {α β:Type} {f:α->Option (List β)}:∀{l:List α} {r:List β},Tp f l=some r->∀y∈r,∃x∈l,∃s,f x=some s/\y∈s
 | [],r,h,y,hy=>by cases h;cases hy
 | z::l,r,h,y,hy=>by
   simp only [Tp] at h
   split at h
   ·rename_i a b ha c
    cases h
    rcases N0.1 hy with hy | hy
    ·exact ⟨z,by simp,a,ha,hy⟩
    ·obtain ⟨x,hx,s,e,hs⟩:=UH c y hy
     exact ⟨x,by simp [hx],s,e,hs⟩
   ·cases h
theorem XF {α β:Type} {f g:α->Option (List β)}:∀{l:List α} {r:List β},(∀x∈l,∀s,f x=some s->g x=some s)->Tp f l=some r->Tp g l=some r
 | [],r,_,h=>h
 | z::l,r,hfg,h=>by
   simp only [Tp] at h⊢
   split at h
   ·rename_i a b ha c
    rw [hfg z (by simp) a ha,XF (fun x hx=>hfg x (by simp [hx])) c]
    exact h
   ·cases h
theorem UW {α:Type} {r:Option α} {L:List α} (h:one r=some L):∃x,r=some x/\L=[x]:=by
 cases r with
 | none=>cases h
 | some x=>cases h;exact ⟨x,rfl,rfl⟩
theorem Sd {α:Type} {r:Option (List α)} {x:α} (h:oneOf r=some x):r=some [x]:=by
 unfold oneOf at h
 split at h
 ·cases h;rfl
 ·cases h
def Nne (C a:SI):Prop:=∀mp lim g as H r,C mp lim g as H=some r->a mp lim g as H=some r
theorem Nne.det {C a:SI} (h:Nne C a):CLe (det C) (det a):=fun mp lim g as H r hx=>by
 unfold AM.det at hx⊢
 rw [h _ _ _ _ _ _ (Sd hx)]
 rfl
theorem Nnr {C a:SI} (h:Nne C a) {lim:Nat} {o:AOp} {ρ:Operand->Value} {H:NA} {r} (hx:XZ C lim o ρ H=some r):XZ a lim o ρ H=some r:=by
 by_cases hc:∃mp f args,o=.call mp f args
 ·obtain ⟨mp,f,args,rfl⟩:=hc
  simp only [XZ] at hx⊢
  split at hx
  ·split at hx
   ·rename_i L hL
    rw [h _ _ _ _ _ _ hL]
    exact hx
   ·cases hx
  ·cases hx
 ·cases o<;>first | exact hx | exact absurd ⟨_,_,_,rfl⟩ hc
theorem Nnp {C a:SI} (h:Nne C a) {lim:Nat} {i:AIns} {ρ:Operand->Value} {H:NA} {r} (hx:stepX C lim i ρ H=some r):stepX a lim i ρ H=some r:=by
 obtain ⟨d,g,o,b,m⟩:=i
 unfold stepX at hx⊢
 cases b with
 | none=>exact Nnr h hx
 | some k=>exact hx
theorem Na9 {C a:SI} (h:Nne C a) {N lim:Nat} {i:AIns} {fr:Nat->Value} {H:NA} {r} (hx:ZG C N lim i fr H=some r):ZG a N lim i fr H=some r:=by
 unfold ZG at hx⊢
 cases hw:Rx N fr i.guard with
 | none=>rw [hw] at hx;cases hx
 | some b=>
   rw [hw] at hx
   cases b with
   | false=>exact hx
   | true=>
     simp only at hx⊢
     split at hx
     ·rename_i L hL
      rw [Nnp h hL]
      exact hx
     ·cases hx
theorem W9 {E:Env} {run a:AFunc->Nat->List AItem->(Nat->Value)->NA->Option (List (Value×NA))} (h:∀af lim k fr H r,run af lim k fr H=some r->a af lim k fr H=some r):Nne (QO E run) (QO E a):=by
 intro mp lim g as H r hx
 unfold QO at hx⊢
 cases g with
 | inr i=>
   simp only at hx⊢
   split at hx
   ·cases hx
   rename_i hm
   rw [Ng hm]
   split at hx
   ·split at hx
    ·rename_i hc
     rw [Nh hc]
     exact h _ _ _ _ _ _ hx
    ·cases hx
   ·cases hx
 | inl g=>
 simp only at hx⊢
 split at hx
 ·exact hx
 split at hx
 ·exact hx
 ·split at hx
  ·cases hx
  ·rename_i af b
   split at hx
   ·rename_i hp
    rw [Nh hp]
    split at hx
    ·rename_i v H1 l h1
     rw [h _ _ _ _ _ _ h1]
     exact hx
    ·cases hx
   ·rename_i hp
    rw [Ng hp]
    split at hx
    ·cases hx
    ·rename_i hm
     rw [Ng hm]
     exact h _ _ _ _ _ _ hx
theorem Nhq (E:Env):∀(n:Nat) (af:AFunc) (lim:Nat) (k:List AItem) (fr:Nat->Value) (H:NA) (r),OW E n af lim k fr H=some r->OW E (n+1) af lim k fr H=some r
 | 0,_,_,_,_,_,_,h=>by simp [OW] at h
 | n+1,af,lim,k,fr,H,r,h=>by
   have ih:=Nhq E n
   rw [OW.eq_def] at h⊢
   simp only at h⊢
   cases k with
   | nil=>exact h
   | cons x k=>
     cases x with
     | inBlock id=>exact ih _ _ _ _ _ _ h
     | inLoop c=>exact ih _ _ _ _ _ _ h
     | begin i=>
       simp only at h⊢
       split at h
       ·split at h
        ·rename_i hc
         rw [Nh hc]
         exact ih _ _ _ _ _ _ h
        ·cases h
       ·cases h
     | round i=>exact h
     | mark i=>exact h
     | ops base l=>
       have e:=W9 (E:=E) fun d lim' k' fr' H' r h=>ih d lim' k' fr' H' r h
       cases l with
       | nil=>cases base<;>exact ih _ _ _ _ _ _ h
       | cons i l=>
         cases base with
         | none=>
           simp only at h⊢
           split at h
           ·rename_i L hx
            rw [Na9 e hx]
            exact XF (fun r _ s hs=>ih _ _ _ _ _ _ hs) h
           ·cases h
         | some b=>
           simp only at h⊢
           split at h
           ·rename_i fr' H' hx
            rw [ZH e.det hx]
            exact ih _ _ _ _ _ _ h
           ·cases h
     | code c=>
       cases c<;>simp only at h⊢<;> first
        | exact ih _ _ _ _ _ _ h
        | exact h
        | skip
       case cond c a b=>
        cases hc:ev fr c<;>rw [hc] at h<;>first
         | (rename_i b;cases b<;>exact ih _ _ _ _ _ _ h)
         | (cases h;done)
       case exit id=>
        split at h
        ·exact ih _ _ _ _ _ _ h
        ·cases h
       case exitR id=>
        split at h
        ·exact ih _ _ _ _ _ _ h
        ·exact h
       case rangeF f ps a b=>
        split at h
        ·split at h
         ·rename_i L hx
          rw [W9 (fun d lim' k' fr' H' r h=>ih _ _ _ _ _ _ h) _ _ _ _ _ _ hx]
          simp only
          refine XF (fun r _ s hs=>?_) h
          split at hs
          ·rename_i x j
           split at hs
           ·cases hs
           ·rename_i g
            rw [Ng g]
            exact ih _ _ _ _ _ _ hs
          ·cases hs
         ·cases h
        ·cases h
theorem V9 (E:Env) {n m:Nat} (h:n<=m) {af:AFunc} {lim:Nat} {k:List AItem} {fr:Nat->Value} {H:NA} {r} (hx:OW E n af lim k fr H=some r):OW E m af lim k fr H=some r:=by
 induction h with
 | refl=>exact hx
 | step _ ih=>exact Nhq E _ _ _ _ _ _ _ ih
theorem Uy (E:Env) {n m:Nat} (h:n<=m):Nne (Rl E n) (Rl E m):=W9 fun _ _ _ _ _ _ hx=>V9 E h hx
theorem Ngx (E:Env):∀(l:List AIns) (n:Nat) (af:AFunc) (lim b:Nat) (k:List AItem) (fr:Nat->Value) (H:NA) (r),OW E n af lim (.ops (some b) l::k) fr H=some r->
  ∃m fr' H',m<n/\Y2 (det (Rl E (n-1))) af.ntmps lim (some b) l fr H=some (fr',H')/\OW E m af lim k fr' H'=some r
 | l,0,af,lim,b,k,fr,H,r,h=>by simp [OW] at h
 | [],n+1,af,lim,b,k,fr,H,r,h=>by
   rw [OW.eq_def] at h
   exact ⟨n,fr,H,by omega,rfl,h⟩
 | i::l,n+1,af,lim,b,k,fr,H,r,h=>by
   rw [OW.eq_def] at h
   simp only at h
   split at h
   ·rename_i fr1 H1 hx
    obtain ⟨m,fr',H',h1,h2,e⟩:=Ngx E l n af lim b k fr1 H1 r h
    refine ⟨m,fr',H',by omega, ?_,e⟩
    have a:Te (det (Rl E (n+1-1))) af.ntmps lim (some b) i fr H=some (fr1,H1):=hx
    simp only [Y2,a]
    have mono:∀(l:List AIns) (fr:Nat->Value) (H:NA) r,Y2 (det (Rl E (n-1))) af.ntmps lim (some b) l fr H=some r->Y2 (det (Rl E (n+1-1))) af.ntmps lim (some b) l fr H=some r:=by
     intro l
     induction l with
     | nil=>intro fr H r h;exact h
     | cons i l ih=>
       intro fr H r h
       obtain ⟨f,K,c,d⟩:=WV h
       simp only [Y2,ZH (Uy E (show n-1<=n+1-1 by omega)).det c]
       exact ih _ _ _ d
    exact mono _ _ _ _ h2
   ·cases h
def XN (C:SI) (N lim:Nat):List AIns->(Nat->Value)->NA->Option (List ((Nat->Value)×NA))
 | [],fr,H=>some [(fr,H)]
 | i::l,fr,H=>match ZG C N lim i fr H with
   | some L=>Tp (fun r=>XN C N lim l r.1 r.2) L
   | none=>none
theorem Ne0 {C a:SI} (h:Nne C a) {N lim:Nat}:∀{l:List AIns} {fr:Nat->Value} {H:NA} {r},XN C N lim l fr H=some r->XN a N lim l fr H=some r
 | [],fr,H,r,hx=>hx
 | i::l,fr,H,r,hx=>by
   simp only [XN] at hx⊢
   split at hx
   ·rename_i L hL
    rw [Na9 h hL]
    exact XF (fun x _ s hs=>Ne0 h hs) hx
   ·cases hx
theorem XE {α β:Type} {f:α->Option (List β)}:∀{l:List α},(∀x∈l,∃s,f x=some s)->∃r,Tp f l=some r
 | [],_=>⟨[],rfl⟩
 | x::l,h=>by
   obtain ⟨s,hs⟩:=h x (by simp)
   obtain ⟨r,hr⟩:=XE (f:=f) (l:=l) fun y a=>h y (by simp [a])
   exact ⟨s++r,by simp only [Tp,hs,hr]⟩
theorem Ndy (E:Env):∀(l:List AIns) (n:Nat) (af:AFunc) (lim:Nat) (k:List AItem) (fr:Nat->Value) (H:NA) (R),OW E n af lim (.ops none l::k) fr H=some R->
  ∃L,XN (Rl E (n-1)) af.ntmps lim l fr H=some L/\∀r∈L,∃m b,m<n/\OW E m af lim k r.1 r.2=some b/\∀x∈b,x∈R
 | l,0,af,lim,k,fr,H,R,h=>by simp [OW] at h
 | [],n+1,af,lim,k,fr,H,R,h=>by
   rw [OW.eq_def] at h
   refine ⟨[(fr,H)],rfl,fun r hr=>?_⟩
   rw [Nl] at hr
   subst hr
   exact ⟨n,R,by omega,h,fun x hx=>hx⟩
 | i::l,n+1,af,lim,k,fr,H,R,h=>by
   rw [OW.eq_def] at h
   simp only at h
   split at h
   case h_2=>cases h
   rename_i L hL
   have d:ZG (Rl E (n+1-1)) af.ntmps lim i fr H=some L:=hL
   have each:∀r∈L,∃a,XN (Rl E (n+1-1)) af.ntmps lim l r.1 r.2=some a/\∀q∈a,∃m b,m<n+1/\OW E m af lim k q.1 q.2=some b/\∀x∈b,x∈R:=fun r hr=>by
    obtain ⟨s,hs,c⟩:=UG h r hr
    obtain ⟨a,h1,h2⟩:=Ndy E l n af lim k r.1 r.2 s hs
    refine ⟨a,Ne0 (Uy E (by omega)) h1,fun q e=>?_⟩
    obtain ⟨m,b,t,o,p⟩:=h2 q e
    exact ⟨m,b,by omega,o,fun x hx=>c x (p x hx)⟩
   obtain ⟨Q,j⟩:=XE (f:=fun r:(Nat->Value)×NA=>XN (Rl E (n+1-1)) af.ntmps lim l r.1 r.2) (l:=L) fun r hr=>by
    obtain ⟨a,h1,_⟩:=each r hr
    exact ⟨a,h1⟩
   refine ⟨Q,by simp only [XN,d,j],fun q e=>?_⟩
   obtain ⟨r,hr,s,hs,g⟩:=UH j q e
   obtain ⟨a,h1,h2⟩:=each r hr
   rw [h1] at hs
   cases hs
   exact h2 q g
theorem Nir {α β:Type} {f:α->Option β} {l:List α} {r:List β} (h:Yl f l=some r) (hl:l≠[]):r≠[]:=by
 cases l with
 | nil=>exact absurd rfl hl
 | cons x l=>
   obtain ⟨y,a,_⟩:=Yk h x (by simp)
   intro e;rw [e] at a;cases a
theorem Nmt {α β:Type} {f:α->Option (List β)} {l:List α} {r:List β} (h:Tp f l=some r) (hl:l≠[]) (b:∀x∈l,∀s,f x=some s->s≠[]):r≠[]:=by
 cases l with
 | nil=>exact absurd rfl hl
 | cons x l=>
   obtain ⟨s,hs,a⟩:=UG h x (by simp)
   obtain ⟨y,c⟩:=Q8 _ (b x (by simp) s hs)
   intro e;have:=a y c;rw [e] at this;cases this
theorem N3a {C:SI} (hC:∀mp lim g as H L,C mp lim g as H=some L->L≠[]) {N lim:Nat} {i:AIns} {fr:Nat->Value} {H:NA} {L} (h:ZG C N lim i fr H=some L):L≠[]:=by
 have b:∀{α:Type} {r:Option α} {L:List α},r.map (fun r=>[r])=some L->L≠[]:=fun {α r L} h=>by
  simp only [Nb] at h
  obtain ⟨p,_,rfl⟩:=h
  simp
 unfold ZG at h
 split at h
 ·cases h
 ·simp only [Nb] at h;obtain ⟨_,_,rfl⟩:=h;simp
 ·split at h
  case h_2=>cases h
  rename_i L0 a
  refine Nir h ?_
  unfold stepX at a
  split at a
  ·unfold XZ at a
   split at a
   ·split at a
    case h_2=>cases a
    split at a
    case h_2=>cases a
    rename_i d c
    exact Nir a (hC _ _ _ _ _ _ c)
   ·exact b a
  unfold Ndd at a
  split at a
  ·exact b a
  ·unfold Zw at a
   repeat' (split at a)
   all_goals first
    | (cases a;done)
    | (cases a;simp;done)
    | exact Nir a (by simp)
  ·exact b a
  ·cases a
theorem Ncc {E:Env} {run:AFunc->Nat->List AItem->(Nat->Value)->NA->Option (List (Value×NA))} (h:∀af lim k fr H L,run af lim k fr H=some L->L≠[]):∀mp lim g as H L,QO E run mp lim g as H=some L->L≠[]:=by
 intro mp lim g as H L hx
 unfold QO at hx
 cases g with
 | inr i=>
   simp only at hx
   repeat' (split at hx)
   all_goals first | (cases hx;done) | exact h _ _ _ _ _ _ hx
 | inl g=>
   simp only at hx
   repeat' (split at hx)
   all_goals first | (cases hx;done) | (cases hx;simp;done) | exact h _ _ _ _ _ _ hx
theorem YY (E:Env):∀(n:Nat) (af:AFunc) (lim:Nat) (k:List AItem) (fr:Nat->Value) (H:NA) (L),OW E n af lim k fr H=some L->L≠[]
 | 0,_,_,_,_,_,_,h=>by simp [OW] at h
 | n+1,af,lim,k,fr,H,L,h=>by
   have ih:=YY E n
   have e:=Ncc (E:=E) ih
   have d:∀{r:Option (Value×NA)},one r=some L->L≠[]:=fun h=>by obtain ⟨x,_,rfl⟩:=UW h;simp
   rw [OW.eq_def] at h
   simp only at h
   cases k with
   | nil=>exact d h
   | cons x k=>
     cases x with
     | inBlock id=>exact ih _ _ _ _ _ _ h
     | inLoop c=>exact ih _ _ _ _ _ _ h
     | begin i=>
       simp only at h
       split at h
       ·split at h
        ·exact ih _ _ _ _ _ _ h
        ·cases h
       ·cases h
     | round i=>
       simp only at h
       split at h
       ·exact d h
       ·cases h
     | mark i=>simp at h
     | ops base l=>
       cases l with
       | nil=>cases base<;>exact ih _ _ _ _ _ _ h
       | cons i l=>
         cases base with
         | none=>
           simp only at h
           split at h
           ·rename_i L0 hx
            exact Nmt h (N3a e hx) fun r _ s hs=>ih _ _ _ _ _ _ hs
           ·cases h
         | some b=>
           simp only at h
           split at h
           ·exact ih _ _ _ _ _ _ h
           ·cases h
     | code c=>
       cases c<;>simp only at h<;>first
        | exact ih _ _ _ _ _ _ h
        | exact d h
        | skip
       case cond c a b=>
        cases hc:ev fr c<;>rw [hc] at h<;>first
         | (rename_i b;cases b<;>exact ih _ _ _ _ _ _ h)
         | (cases h;done)
       case exit id=>
        split at h
        ·exact ih _ _ _ _ _ _ h
        ·cases h
       case retM=>
        split at h
        ·exact d h
        ·cases h
       case retR=>
        split at h
        ·split at h
         ·exact d h
         ·cases h
        ·cases h
       case exitR id=>
        split at h
        ·exact ih _ _ _ _ _ _ h
        ·split at h
         ·split at h
          ·exact d h
          ·cases h
         ·cases h
       case rangeF f ps a b=>
        split at h
        ·split at h
         ·rename_i L0 hx
          refine Nmt h (e _ _ _ _ _ _ hx) fun r _ s hs=>?_
          split at hs
          ·split at hs
           ·cases hs
           ·exact ih _ _ _ _ _ _ hs
          ·cases hs
         ·cases h
        ·cases h
theorem Nm3 (E:Env) {n:Nat} {mp:Bool} {lim:Nat} {g:FuncId ⊕ Nat} {as:List Value} {H:NA} {L} (h:Rl E n mp lim g as H=some L):L≠[]:=Ncc (YY E n) _ _ _ _ _ _ h
theorem Nhz {lim:Nat} {H H':NA} {a:Addr} {vs:List Value} (h:storeAt lim H a vs=some H'):H.length<=H'.length:=by rw [SY h];exact Nd _
theorem VA {dest:Option Nat} {b:Blk} {H:NA}:H.length<=(place dest b H).2.length:=by
 cases dest<;>simp [place]
theorem Nhs {o:AOp} (hL:isL o=false) {lim:Nat} {dest:Option Nat} {ρ:Operand->Value} {H H':NA} {v:Value} (hn:kind o≠.n) (h:NJ lim dest o ρ H=some (v,H')):H.length<=H'.length:=by
 cases hk:kind o with
 | n=>exact absurd hk hn
 | p=>rw [(Nyu hk h).1];exact Nd _
 | r=>
   by_cases hc:∃mp f args,o=.call mp f args
   ·obtain ⟨mp,f,args,rfl⟩:=hc;simp [NJ] at h
   ·rw [Ww hk (fun mp f args e=>hc ⟨mp,f,args,e⟩) h];exact Nd _
 | c=>
   cases o<;>simp [kind] at hk
   simp [NJ] at h
 | a=>
   cases o<;>simp [kind] at hk<;>simp only [NJ] at h
   case alloc=>cases h;exact VA
   case box=>
    split at h
    case isFalse=>cases h
    cases h;exact VA
   case buildSlice=>
    split at h
    case h_2=>cases h
    cases h;exact VA
   case makeSlice=>
    split at h
    case h_2=>cases h
    split at h
    case isFalse=>cases h
    cases h;exact VA
   case growNil=>
    split at h
    case h_2=>cases h
    split at h
    case isFalse=>cases h
    cases h;exact VA
   case makeMap=>
    split at h
    case h_2=>cases h
    cases h;exact VA
   case call mp f args=>split at hk<;>cases hk
 | s=>
   have hs:=UY hk
   cases o<;>simp [XO] at hs
   have h':=Wp h
   simp only [Zb] at h'
   rw [Yo (o:=.store _ _ _) rfl rfl h'];exact Nd _
 | w=>
   cases hm:makes o with
   | false=>rw [Yo hk hm h];exact Nd _
   | true=>
     cases dest with
     | some d=>rw [Xq hk h];exact Nd _
     | none=>
       have ha:∃esz bytes str s x,o=.append esz bytes str s x:=by
        cases o<;>simp [makes,kind] at hm<;>(try (simp [kind] at hk;done))
        case append=>exact ⟨_,_,_,_,_,rfl⟩
        case appendL=>simp [isL] at hL
        all_goals (exfalso;simp [kind] at hk;try (split at hk<;>cases hk))
       obtain ⟨esz,bytes,str,s,x,rfl⟩:=ha
       simp only [NJ] at h
       unfold OU at h
       split at h
       case h_2=>cases h
       split at h
       ·cases h
       split at h
       ·cases h;exact Nd _
       split at h
       ·split at h
        ·cases h;simp []
        ·cases h
       ·split at h
        ·cases h
        split at h
        ·split at h
         ·split at h
          ·cases h;simp []
          ·cases h
         ·cases h
        ·split at h
         ·split at h
          ·split at h
           ·rename_i h1;cases h;exact Nhz h1
           ·cases h
          ·cases h;simp []
         ·cases h
theorem Nm0 {o:AOp} {lim:Nat} {dest:Option Nat} {ρ:Operand->Value} {H H':NA} {v:Value} (hn:kind o≠.n) (h:NJ lim dest o ρ H=some (v,H')):H.length<=H'.length:=by
 cases hL:isL o with
 | false=>exact Nhs hL hn h
 | true=>obtain ⟨_,_,h1,h2,_⟩:=Ncw hL;exact Nhs h1 (by rw [h2];simp) (Wp h)
theorem Nrq {o:AOp} {lim:Nat} {dest:Option Nat} {ρ:Operand->Value} {H H':NA} {v:Value} (h:NJ lim dest o ρ H=some (v,H')):H.length<=H'.length:=by
 by_cases hn:kind o=.n
 ·cases o<;>(try (simp [kind] at hn;done))
  ·exact Nm0 (by simp [Zb,kind]) (Wp h)
  ·rename_i mp f as'
   cases mp<;>simp [kind,CM.isPure] at hn
 ·exact Nm0 hn h
def Nfw (C:Tt):Prop:=∀mp lim g as H v H',C mp lim g as H=some (v,H')->lim<=H.length->H.length<=H'.length/\Grow lim H H'
theorem Nbo {C:Tt} (hC:Nfw C) {lim:Nat} {dest:Option Nat} {o:AOp} {ρ:Operand->Value} {H H':NA} {v:Value} (h:QZ C lim dest o ρ H=some (v,H')) (hd:∀d,dest=some d->lim<=d) (hl:lim<=H.length) :
  H.length<=H'.length/\Grow lim H H':=by
 by_cases hc:∃mp f args,o=.call mp f args
 ·obtain ⟨mp,f,args,rfl⟩:=hc
  simp only [QZ] at h
  split at h
  ·obtain ⟨a,b⟩:=CM.lim_le mp hl
   obtain ⟨g,i⟩:=hC _ _ _ _ _ _ _ (Sn h).1 b
   exact ⟨g,i.weaken a⟩
  ·cases h
 ·have c:∀mp f args,o≠.call mp f args:=fun mp f args e=>hc ⟨mp,f,args,e⟩
  rw [OI c] at h
  exact ⟨Nrq h,Nfl h hd hl⟩
theorem Njv {lim base:Nat} {l:List Nat} {H X:NA} (g:lim<=base) (h:Grow lim (NU base l H) X):Grow lim H (NS base l H X):=⟨fun j b c ha=>by
 by_cases d:∃i∈l,base+i=j
 ·have f:j<X.length:=by
   have:=(List.getElem?_eq_some_iff.1 c).1
   rw [OZ] at this;exact this
  rw [Rz base H l X d f] at c
  simp only [Option.some.injEq] at c
  exact .inl (QX c ha)
 ·have a:∀i∈l,base+i≠j:=fun i hi e=>d ⟨i,hi,e⟩
  rw [QN base H l X a] at c
  rcases h j b c ha with h1 | h1
  ·rw [PX base l H a] at h1;exact .inl h1
  ·exact .inr h1,fun j d=>by
 have a:∀i∈l,base+i≠j:=fun i hi e=>by omega
 rw [QN base H l X a,h.keep j d,PX base l H a]⟩
theorem Nei {C:Tt} (hC:Nfw C) {N lim:Nat} {base:Option Nat} {i:AIns} {fr fr':Nat->Value} {H H':NA} (h:Te C N lim base i fr H=some (fr',H')) (c:∀b,base=some b->lim<=b) (hl:lim<=H.length) :
  H.length<=H'.length/\Grow lim H H':=by
 unfold Te at h
 cases hv:Sm C N lim base i fr H with
 | none=>rw [hv] at h;cases h
 | some p=>
   obtain ⟨v,K⟩:=p
   rw [hv] at h
   simp only [Nb,Prod.mk.injEq] at h
   obtain ⟨f,j,rfl,rfl⟩:=h
   unfold Sm at hv
   cases hw:Rx N fr i.guard with
   | none=>rw [hw] at hv;cases hv
   | some b=>
     rw [hw] at hv
     cases b with
     | false=>cases hv;exact ⟨Nd _,Grow.refl _ _⟩
     | true=>
       cases base with
       | none=>exact Nbo hC hv (fun d e=>by cases e) hl
       | some b=>
         simp only at hv
         cases hs:QZ C lim (i.dest.map (b+·)) i.op (ev fr) (NU b i.mask H) with
         | none=>rw [hs] at hv;cases hv
         | some q=>
           obtain ⟨k,X⟩:=q
           rw [hs] at hv
           cases hv
           obtain ⟨a,g⟩:=Nbo hC hs (fun d e=>by
            simp only [Nb] at e
            obtain ⟨r,_,rfl⟩:=e
            have:=c b rfl
            omega) (by rw [OQ];exact hl)
           exact ⟨by rw [OZ];rw [OQ] at a;exact a,Njv (c b rfl) g⟩
theorem Ndn {lim i:Nat} {H:NA} {b:Blk} (h:lim<=i) (ho:owned b=true):H.length<=(H.set i b).length/\Grow lim H (H.set i b):=⟨by simp,Grow.set h fun _=>ho⟩
theorem Ngq {lim:Nat}:∀{l:List Nat} {H H':NA},shut lim l H=some H'->H.length<=H'.length/\Grow lim H H'
 | [],H,H',h=>by cases h;exact ⟨Nd _,Grow.refl _ _⟩
 | i::l,H,H',h=>by
   simp only [shut] at h
   split at h
   ·split at h
    ·rename_i hl
     obtain ⟨h1,h2⟩:=Ngq h
     exact ⟨by simpa using h1,(Grow.set (b:=.dead) hl fun h=>by simp [alive] at h).trans h2⟩
    ·cases h
   ·cases h
theorem Nf7 {lim i:Nat} {j:Option ACode} {H H':NA} {v:Value} (hl:lim<=i) (h:endRound i j H=some (v,H')):H.length<=H'.length/\Grow lim H H':=by
 unfold endRound at h
 split at h
 ·cases h;exact Ndn hl rfl
 ·cases h
def Tm (C:SI):Prop:=∀mp lim g as H L,C mp lim g as H=some L->lim<=H.length->∀r∈L,H.length<=r.2.length/\Grow lim H r.2
theorem Tm.det {C:SI} (h:Tm C):Nfw (AM.det C):=fun mp lim g as H v H' hx hl=>h _ _ _ _ _ _ (Sd hx) hl (v,H') (by simp)
theorem Nqq {lim:Nat} {v:Value} {H:NA} {L} (h:Zw lim v H=some L):∀r∈L,H.length<=r.2.length/\Grow lim H r.2:=fun r hr=>by
 unfold Zw at h
 split at h
 case h_2=>cases h
 split at h
 case h_2=>cases h
 split at h
 case isFalse=>cases h
 rename_i hl
 split at h
 case h_2=>cases h
 split at h
 case isFalse=>cases h
 split at h
 ·cases h
  rw [Nl] at hr
  subst hr
  exact ⟨Nd _,Grow.refl _ _⟩
 ·obtain ⟨j,_,a⟩:=YP h r hr
  split at a
  ·split at a
   ·cases a;exact ⟨by simp,Grow.set hl fun _=>rfl⟩
   ·cases a
  ·cases a
theorem Nns {C:SI} (hC:Tm C) {lim:Nat} {o:AOp} {ρ:Operand->Value} {H:NA} {L} (h:XZ C lim o ρ H=some L) (hl:lim<=H.length):∀r∈L,H.length<=r.2.length/\Grow lim H r.2:=fun r hr=>by
 by_cases hc:∃mp f args,o=.call mp f args
 ·obtain ⟨mp,f,args,rfl⟩:=hc
  simp only [XZ] at h
  split at h
  case h_2=>cases h
  split at h
  case h_2=>cases h
  rename_i L0 a
  obtain ⟨x,hx,e⟩:=YP h r hr
  obtain ⟨b,c⟩:=CM.lim_le mp hl
  have:=(Sn e).1
  cases this
  obtain ⟨g,i⟩:=hC _ _ _ _ _ _ a c r hx
  exact ⟨g,i.weaken b⟩
 ·have plain:∀{v:Value} {H':NA},(NJ lim none o ρ H).map (fun r=>[r])=some L->r=(v,H')->H.length<=H'.length/\Grow lim H H':=fun {v H'} h e=>by
   simp only [Nb] at h
   obtain ⟨p,hp,rfl⟩:=h
   rw [Nl] at hr
   subst hr
   cases e
   exact ⟨Nrq hp,Nfl hp (fun d e=>by cases e) hl⟩
  cases o<;>first
   | exact absurd ⟨_,_,_,rfl⟩ hc
   | exact plain h rfl
theorem Nnq {C:SI} (hC:Tm C) {lim:Nat} {i:AIns} {ρ:Operand->Value} {H:NA} {L} (h:stepX C lim i ρ H=some L) (hl:lim<=H.length):∀r∈L,H.length<=r.2.length/\Grow lim H r.2:=fun r hr=>by
 unfold stepX at h
 split at h
 ·exact Nns hC h hl r hr
 unfold Ndd at h
 split at h
 ·simp only [Nb] at h
  obtain ⟨p,hp,rfl⟩:=h
  rw [Nl] at hr
  subst hr
  unfold Uh at hp
  split at hp
  ·cases hp;exact ⟨by simp,Grow.app hl fun b a _=>by simp at a;subst a;rfl⟩
  ·cases hp
 ·exact Nqq h r hr
 ·simp only [Nb] at h
  obtain ⟨p,hp,rfl⟩:=h
  rw [Nl] at hr
  subst hr
  unfold Y7 at hp
  repeat' (split at hp)
  all_goals first
   | (cases hp;done)
   | (cases hp;exact ⟨Nd _,Grow.refl _ _⟩)
 ·cases h
theorem Nt9 {C:SI} (hC:Tm C) {N lim:Nat} {i:AIns} {fr:Nat->Value} {H:NA} {L} (h:ZG C N lim i fr H=some L) (hl:lim<=H.length):∀r∈L,H.length<=r.2.length/\Grow lim H r.2:=fun r hr=>by
 unfold ZG at h
 cases hw:Rx N fr i.guard with
 | none=>rw [hw] at h;cases h
 | some b=>
   rw [hw] at h
   cases b with
   | false=>
     simp only [Nb] at h
     obtain ⟨f,_,rfl⟩:=h
     rw [Nl] at hr
     subst hr
     exact ⟨Nd _,Grow.refl _ _⟩
   | true=>
     simp only at h
     split at h
     case h_2=>cases h
     rename_i L0 a
     obtain ⟨x,hx,e⟩:=YP h r hr
     simp only [Nb] at e
     obtain ⟨f,_,rfl⟩:=e
     exact Nnq hC a hl x hx
theorem Nuf {lim:Nat} {H:NA} {X:List (List Value)} (hl:lim<=H.length):Grow lim H (H++news X):=⟨fun j b a ha=>by
 rcases Ou j H.length with h | h
 ·rw [N4 h] at a;exact .inl a
 ·rw [Oc h] at a
  unfold news at a
  rw [O0] at a
  simp only [Nb] at a
  obtain ⟨c,_,rfl⟩:=a
  exact .inr ⟨rfl,by omega⟩,fun j d=>by rw [N4 (by omega)]⟩
theorem Nwf {lim:Nat} {H:NA} {u:Option (Nat×List Value)} (h:XU lim H u=true):(N1r H u).length=H.length/\Grow lim H (N1r H u):=by
 cases u with
 | none=>exact ⟨rfl,Grow.refl _ _⟩
 | some x=>
   obtain ⟨R,c⟩:=x
   simp only [XU,Nx,Ob] at h
   exact ⟨by simp [N1r],Grow.set h.1 fun _=>rfl⟩
theorem Zv {E:Env} {run:AFunc->Nat->List AItem->(Nat->Value)->NA->Option (List (Value×NA))}
  (h:∀af lim k fr H L,(∀x∈k,∀b l,x≠.ops (some b) l)->run af lim k fr H=some L->lim<=H.length->∀r∈L,H.length<=r.2.length/\Grow lim H r.2):Tm (QO E run):=by
 intro mp lim g as H L hx hl r hr
 unfold QO at hx
 have keep:∀{v:Value},some [(v,H)]=some L->H.length<=r.2.length/\Grow lim H r.2:=fun {v} e=>by
  cases e
  rw [Nl] at hr
  subst hr
  exact ⟨Nd _,Grow.refl _ _⟩
 cases g with
 | inr i=>
   simp only at hx
   split at hx
   ·cases hx
   split at hx
   ·split at hx
    ·exact h _ _ _ _ _ _ (fun x hx b l e=>by simp at hx;rcases hx with rfl | rfl | rfl | rfl<;>cases e) hx hl r hr
    ·cases hx
   ·cases hx
 | inl g=>
 simp only at hx
 split at hx
 ·split at hx
  ·exact keep hx
  ·cases hx
 split at hx
 ·split at hx
  ·cases hx
  ·rename_i hc
   cases hx
   rw [Nl] at hr
   subst hr
   simp only [Bool.or_eq_true,Bool.not_eq_true',not_or,Bool.not_eq_false] at hc
   have a:=Nwf hc.2
   exact ⟨by simp [Np0,a.1],a.2.trans (Nuf (by omega))⟩
 ·split at hx
  ·cases hx
  ·split at hx
   ·split at hx
    ·split at hx
     ·split at hx
      ·exact keep hx
      ·cases hx
     ·cases hx
    ·cases hx
   ·split at hx
    ·cases hx
    ·exact h _ _ _ _ _ _ (fun x hx b l e=>by simp at hx;subst hx;cases e) hx hl r hr
theorem YZ {id:Nat}:∀{k k':List AItem} {a:AItem->Prop},Rs id k=some k'->(∀x∈k,a x)->∀x∈k',a x
 | [],_,_,h,_=>by simp [Rs] at h
 | y::k,k',a,h,hp=>by
   have hk:∀x∈k,a x:=fun x hx=>hp x (Nj _ hx)
   cases y<;>simp only [Rs] at h
   case inBlock b=>
    split at h
    ·cases h;exact hk
    ·exact YZ h hk
   all_goals exact YZ h hk
theorem Nhr (E:Env):∀(n:Nat) (af:AFunc) (lim:Nat) (k:List AItem) (fr:Nat->Value) (H:NA) (L:List (Value×NA)),(∀x∈k,∀b l,x=.ops (some b) l->lim<=b)->OW E n af lim k fr H=some L->lim<=H.length->
  ∀r∈L,H.length<=r.2.length/\Grow lim H r.2
 | 0,_,_,_,_,_,_,_,h,_,_,_=>by simp [OW] at h
 | n+1,af,lim,k,fr,H,L,hk,h,hl,r,hr=>by
   have ih:=Nhr E n
   rw [OW.eq_def] at h
   simp only at h
   have B:one ((result fr H af.results).map (·,H))=some L->H.length<=r.2.length/\Grow lim H r.2:=fun h=>by
    obtain ⟨x,h',rfl⟩:=UW h
    rw [Nl] at hr
    subst hr
    simp only [Nb] at h'
    obtain ⟨_,_,rfl⟩:=h'
    exact ⟨Nd _,Grow.refl _ _⟩
   have g:∀{i:Nat} {j:Option ACode},lim<=i->one (endRound i j H)=some L->H.length<=r.2.length/\Grow lim H r.2:=fun {i j} G h=>by
    obtain ⟨x,h',rfl⟩:=UW h
    rw [Nl] at hr
    subst hr
    exact Nf7 G h'
   have v:Tm (QO E (OW E n)):=Zv fun M lim' k' fr' H0 L0 D h0 F=>ih _ _ _ _ _ _ (fun x hx b l e=>absurd e (D x hx b l)) h0 F
   cases k with
   | nil=>exact B h
   | cons x k=>
     have d:∀x∈k,∀b l,x=.ops (some b) l->lim<=b:=fun x hx=>hk x (Nj _ hx)
     have add:∀{c:AItem},(∀b l,c≠.ops (some b) l)->∀x∈c::k,∀b l,x=.ops (some b) l->lim<=b:=fun {c} hc x hx b l e=>by
      rcases Nn.1 hx with h | h
      ·subst h;exact absurd e (hc b l)
      ·exact d x h b l e
     cases x with
     | inBlock id=>exact ih _ _ _ _ _ _ d h hl r hr
     | begin i=>
       simp only at h
       split at h
       ·split at h
        ·rename_i hc
         obtain ⟨p,o⟩:=Ndn (H:=H) (b:=.loop { ‹LoopB› with st:=1 }) hc.2 rfl
         obtain ⟨A,u⟩:=ih _ _ _ _ _ _ d h (by simpa using hl) r hr
         exact ⟨by simpa using A,o.trans u⟩
        ·cases h
       ·cases h
     | round i=>
       simp only at h
       split at h
       ·exact g ‹_› h
       ·cases h
     | mark i=>simp at h
     | inLoop c=>
       refine ih _ _ _ _ _ _ (fun x hx b l e=>?_) h hl r hr
       rcases Nn.1 hx with h | h
       ·subst h;cases e
       ·exact add (c:=.inLoop c) (by simp) x h b l e
     | ops base l=>
       cases l with
       | nil=>cases base<;>exact ih _ _ _ _ _ _ d h hl r hr
       | cons i l=>
         cases base with
         | none=>
           simp only at h
           split at h
           ·rename_i L0 hx
            obtain ⟨x,J,s,hs,z⟩:=UH h r hr
            obtain ⟨p,o⟩:=Nt9 v hx hl x J
            obtain ⟨A,u⟩:=ih _ _ _ _ _ _ (add (c:=.ops none l) (by simp)) hs (by omega) r z
            exact ⟨by omega,o.trans u⟩
           ·cases h
         | some N=>
           simp only at h
           split at h
           ·rename_i fr' H1 hx
            obtain ⟨p,o⟩:=Nei v.det hx (fun b e=>hk _ Nm b (i::l) (by cases e;rfl)) hl
            obtain ⟨A,u⟩:=ih _ _ _ _ _ _ (fun x hx b K e=>by
             rcases Nn.1 hx with h | h
             ·subst h;cases e;exact hk _ Nm N (i::l) rfl
             ·exact d x h b K e) h (by omega) r hr
            exact ⟨by omega,o.trans u⟩
           ·cases h
     | code c=>
       cases c<;>simp only at h
       case skip=>exact ih _ _ _ _ _ _ d h hl r hr
       case ops l=>exact ih _ _ _ _ _ _ (add (c:=.ops none l) (by simp)) h hl r hr
       case drawn m l=>
        obtain ⟨p,o⟩:=ih _ _ _ _ _ _ (fun x hx b K e=>by
         rcases Nn.1 hx with h | h
         ·subst h;cases e;exact hl
         ·exact d x h b K e) h (by simp;omega) r hr
        exact ⟨by simp at p;omega,(Grow.dead hl m).trans o⟩
       case seq a b=>
        refine ih _ _ _ _ _ _ (fun x hx b' l e=>?_) h hl r hr
        rcases Nn.1 hx with h | h
        ·subst h;cases e
        ·exact add (c:=.code b) (by simp) x h b' l e
       case cond c a b=>
        cases hc:ev fr c<;>rw [hc] at h<;>first
         | (rename_i t;cases t<;>exact ih _ _ _ _ _ _ (add (by simp)) h hl r hr)
         | (cases h;done)
       case block id b=>
        refine ih _ _ _ _ _ _ (fun x hx b' l e=>?_) h hl r hr
        rcases Nn.1 hx with h | h
        ·subst h;cases e
        ·exact add (c:=.inBlock id) (by simp) x h b' l e
       case loop b=>
        refine ih _ _ _ _ _ _ (fun x hx b' l e=>?_) h hl r hr
        rcases Nn.1 hx with h | h
        ·subst h;cases e
        ·exact add (c:=.inLoop b) (by simp) x h b' l e
       case exit id=>
        split at h
        ·rename_i k' w
         exact ih _ _ _ _ _ _ (YZ w d) h hl r hr
        ·cases h
       case ret=>exact B h
       case retM=>
        split at h
        ·rename_i H1 I
         obtain ⟨p,o⟩:=Ngq (lim:=lim) I
         obtain ⟨x,h',rfl⟩:=UW h
         rw [Nl] at hr
         subst hr
         simp only [Nb] at h'
         obtain ⟨_,_,rfl⟩:=h'
         exact ⟨p,o⟩
        ·cases h
       case retR=>
        split at h
        ·split at h
         ·exact g ‹_› h
         ·cases h
        ·cases h
       case exitR id=>
        split at h
        ·rename_i k' w
         exact ih _ _ _ _ _ _ (YZ w d) h hl r hr
        ·split at h
         ·split at h
          ·exact g ‹_› h
          ·cases h
         ·cases h
       case rangeF f ps a b=>
        split at h
        ·split at h
         ·rename_i L0 hx
          obtain ⟨q,O,s,hs,z⟩:=UH h r hr
          obtain ⟨p,o⟩:=v _ _ _ _ _ _ hx (by simp;omega) q O
          simp at p
          split at hs
          ·rename_i x C
           split at hs
           ·cases hs
           ·obtain ⟨A,u⟩:=ih _ _ _ _ _ _ (fun y hy b l e=>by
             rcases N0.1 hy with hy | hy
             ·cases hp:x.pend<;>rw [hp] at hy<;>simp at hy
              subst hy;cases e
             ·rcases N0.1 hy with hy | hy
              ·exact d y hy b l e
              ·simp at hy;subst hy;cases e) hs (by simp;omega) r z
            simp at A
            exact ⟨by omega,(Grow.app hl fun b C _=>by simp at C;rcases C with rfl | rfl<;>rfl).trans (o.trans ((Grow.set (b:=.dead) (by omega) fun h=>by simp [alive] at h).trans u))⟩
          ·cases hs
         ·cases h
        ·cases h
open Go.RowKit
structure CallOkS (Pg:Prg) (C:SI):Prop where
 fn:∀mp lim g as H L,C mp lim (.inl g) as H=some L->∃fn,Pg.P.funcs[g]? = some fn/\fn.body.isSome=true/\(fn.name == "runtime.NumGoroutine")=false
 calls:∀mp lim g as H L,C mp lim (.inl g) as H=some L->lim<=H.length->∀W σ w as',Inv Pg W lim σ H w->OG σ as as'->Calls Pg.P g as'.toArray w fun e w'=>∃r∈L,R8 Pg W lim σ H r.1 r.2 w e w'
 rounds:∀mp lim i as H L,C mp lim (.inr i) as H=some L->lim<=H.length->∀W σ w as' L0,Inv Pg W lim σ H w->OG σ as as'->σ i=some L0->
  ∃r,w.heap[L0.blk]? = some (.loop r)/\as'.toArray.size=r.params.size/\RoundIn Fence.wide 0 Pg.P L0.blk r.fn (SL r as'.toArray) r.assign r.body w fun e w'=>∃x∈L,R8 Pg W lim σ H x.1 x.2 w e w'
 grow:Tm C
 pure:∀lim g as H L,C true lim g as H=some L->∀r∈L,r.2=H
theorem CallOkS.det {Pg:Prg} {C:SI} (h:CallOkS Pg C):CallOk Pg (AM.det C) where
 pure lim g as H v H' hx:=h.pure _ _ _ _ _ (Sd hx) (v,H') (by simp)
 len mp lim g as H v H' hx hl:=(h.grow _ _ _ _ _ _ (Sd hx) hl (v,H') (by simp)).1
 keep mp lim g as H v H' hx hl:=(h.grow _ _ _ _ _ _ (Sd hx) hl (v,H') (by simp)).2.keep
 fn mp lim g as H v H' hx:=h.fn _ _ _ _ _ _ (Sd hx)
 calls mp lim g as H v H' hx hl W σ w as' hinv ha:=(h.calls _ _ _ _ _ _ (Sd hx) hl W σ w as' hinv ha).mono fun e w' hp=>by
  obtain ⟨r,hr,hp⟩:=hp
  rw [Nl] at hr
  subst hr
  exact hp
 rounds mp lim i as H v H' hx hl W σ w as' L hinv ha hL:=by
  obtain ⟨r,h1,h2,a⟩:=h.rounds _ _ _ _ _ _ (Sd hx) hl W σ w as' L hinv ha hL
  exact ⟨r,h1,h2,a.mono fun e w' hp=>by
   obtain ⟨x,hx,hp⟩:=hp
   rw [Nl] at hx
   subst hx
   exact hp⟩
 grow mp lim g as H v H' hx hl:=(h.grow _ _ _ _ _ _ (Sd hx) hl (v,H') (by simp)).2
theorem Nmr (Pg:Prg):CallOk Pg fun _ _ _ _ _=>none where
 pure:=fun _ _ _ _ _ _ h=>by cases h
 len:=fun _ _ _ _ _ _ _ h=>by cases h
 keep:=fun _ _ _ _ _ _ _ h=>by cases h
 fn:=fun _ _ _ _ _ _ _ h=>by cases h
 calls:=fun _ _ _ _ _ _ _ h=>by cases h
 rounds:=fun _ _ _ _ _ _ _ h=>by cases h
 grow:=fun _ _ _ _ _ _ _ h=>by cases h
section
variable {P:Program} {pf pureF:FuncId->Bool} {C:SI} {W:Nat->Prop} {lim:Nat} {σ:PH} {H H':NA} {w:World} {ds:List Deferred} {ro:Option Nat}
theorem Nxx {r m n:Nat} {seen:List Nat} {ty:TypeId} {ents:Array MapEntry} (hr:w.heap[r]? = some (.mapIter (some m) n seen.toArray n)) (o:w.heap[m]? = some (.map ents n)) (f:∀(j:Nat) e,ents[j]? = some e->e.born=j) (z:ents.size=n) :
  (SE n seen=[]/\(Instr.next (.pointer (some ⟨r,0,none⟩)) false ty).run P w=.ok (.tuple #[.bool false]) w)\/
  ∃j∈SE n seen,∃e,ents[j]? = some e/\∃b,(b=w\/b=w.drew)/\(Instr.next (.pointer (some ⟨r,0,none⟩)) false ty).run P w=.ok (.tuple #[.bool true,e.key,e.val]) (b.putObj r (.mapIter (some m) n (seen++[j]).toArray n)):=by
 have d:∀x∈ents.toList,x.born<n:=fun x hx=>by
  obtain ⟨j,c,rfl⟩:=List.mem_iff_getElem.1 hx
  have:=f j ents[j] (by simp)
  simp at c
  simp
  omega
 simp only [Instr.next,getObj,Sem.run_bind,Sem.run,hr,o,Result.andThen,next_test_false seen.toArray ents n n d (Nd _),Nz,if_false]
 have a:∀x∈(Array.filter (fun e=>!seen.toArray.contains e.born) ents).toList,x.born<n:=fun x hx=>d x (by simp at hx⊢;exact hx.1)
 have g:∀x∈(Array.filter (fun e=>!seen.toArray.contains e.born) ents).toList,x.born∈SE n seen/\ents[x.born]? = some x:=fun x hx=>by
  simp at hx
  obtain ⟨j,c,rfl⟩:=Array.mem_iff_getElem.1 hx.1
  have o:=f j ents[j] (by simp)
  rw [o]
  refine ⟨?_,by simp⟩
  unfold SE
  rw [Oy,List.mem_range]
  exact ⟨by omega,by have:=hx.2;rw [o] at this;simpa using this⟩
 have i:SE n seen≠[]->(Array.filter (fun e=>!seen.toArray.contains e.born) ents)≠#[]:=fun h e=>by
  obtain ⟨j,c⟩:=Q8 _ h
  unfold SE at c
  rw [Oy,List.mem_range] at c
  have q:j<ents.size:=by omega
  have hm:ents[j]∈Array.filter (fun e=>!seen.toArray.contains e.born) ents:=by
   rw [Array.mem_filter]
   refine ⟨Array.getElem_mem q, ?_⟩
   rw [f j ents[j] (by simp)]
   simpa using c.2
  rw [e] at hm
  simp at hm
 generalize Array.filter (fun e=>!seen.toArray.contains e.born) ents=L at a g i⊢
 have e1:L.filter (fun x=>decide (x.born<n))=L:=Array.filter_eq_self.2 (fun x hx=>by simpa using a x (by simpa using hx))
 have e2:L.filter (fun x=>decide (x.born>=n))=#[]:=by
  rw [Array.filter_eq_empty_iff]
  intro x hx
  have:=a x (by simpa using hx)
  simp
  omega
 simp only [e1,e2,Array.append_empty]
 by_cases h0:L.size=0
 ·left
  have:L=#[]:=Array.eq_empty_of_size_eq_zero h0
  subst this
  refine ⟨Ok fun h=>i h rfl, ?_⟩
  simp [choose,Sem.run,Question.forced]
 ·right
  have s:L.isEmpty=false:=by simp [Array.isEmpty,h0]
  simp only [s,Nz,if_false,Array.empty_append,Array.size_map]
  have p:∃(j:Nat) (b:World),j<L.size/\(b=w\/b=w.drew)/\(choose (Question.mapNext L.size)).run P w=.ok j b:=by
   by_cases u:L.size<=1
   ·exact ⟨0,w,by omega,.inl rfl,by simp [choose,Sem.run,Question.forced,u]⟩
   ·exact ⟨_,w.drew,Pr _ (by omega),.inr rfl,by
     simp only [choose,Sem.run,Question.forced,Ob,u,if_false,Question.cut]
     rfl⟩
  obtain ⟨j,b,c,l,k⟩:=p
  obtain ⟨v,y⟩:=g L[j] (by simp)
  refine ⟨_,v,L[j],y,b,l, ?_⟩
  have t:b.heap[r]? = some (.mapIter (some m) n seen.toArray n):=by
   rcases l with rfl | rfl<;>exact hr
  simp only [k,Array.getElem?_map,Ny c,Nr,Sem.run_bind,setObj,Sem.run,t,Result.andThen]
  simp [World.putObj]
theorem Nb1 {v:Value} (h:V4 v=true):VRel σ v v:=by
 cases v<;>simp only [V4] at h<;>first
  | (cases h;done)
  | exact .atom rfl
  | skip
 rename_i cs
 rw [N6] at h
 refine VRel.agg_iff.2 ⟨OG.refl_of fun x hx=>?_,fun y a=>?_⟩
 ·have:=h x hx
  cases x<;>first | exact .atom rfl | (simp at this;done)
 ·have:=h y a
  cases y<;>first | rfl | (simp at this;done)
theorem Inv.push {Pg:Prg} (h:Inv Pg W lim σ H w) {b:Blk} {o:Obj} (ho:owned b=true) (f:U1 Pg (σ.put H.length ⟨w.heap.size,0,0⟩) (w.alloc o) ⟨w.heap.size,0,0⟩ b):Inv Pg W lim (σ.put H.length ⟨w.heap.size,0,0⟩) (H++[b]) (w.alloc o)/\∀j,(σ.put H.length ⟨w.heap.size,0,0⟩) j≠σ j->none=some j\/H.length<=j:=by
 have hw:Inv Pg W lim σ H (w.alloc o):=h.world (by simp) fun b f=>by rw [Uc,Pn];rw [Ng (by omega)]
 obtain ⟨g,i,p,k,q,r,s⟩:=Tg (dest:=none) (b:=b) (H:=H) (show place none b H=(H.length,H++[b]) from rfl) (fun d e=>by cases e)
 refine ⟨hw.adopt g i k (h.dom _ (Nd _)) f ho (h.fresh _ (Nd _)) fun j bj Lj m c ha a e=>?_,fun j l=>.inr ?_⟩
 ·obtain ⟨n,h1,h2⟩:=h.blk j bj c ha
  rw [a] at h1;cases h1
  have:=h2.lt ha
  simp at e
  omega
 ·apply Ok
  intro hc
  refine l ?_
  simp only [PH.put]
  rw [Ng (by omega)]
theorem N1y {r:Nat} {o:Obj} (a:W r):Stp W w (w.putObj r o):=
 ⟨rfl,rfl,⟨rfl,Nd _⟩,by simp,fun b c=>World.putObj_heap_other fun e=>c (e▸a)⟩
theorem Inv.putLoop (h:Inv (Prg.mk P pf) W lim σ H w) {i:Nat} {b b':Blk} {L:Loc} (d:NC H i=b) (ho:owned b=true) (hL:σ i=some L) (hl:lim<=i) {o:Obj} (a:U1 (Prg.mk P pf) σ (w.putObj L.blk o) L b') (c:alive b'=true->owned b'=true) :
  Inv (Prg.mk P pf) W lim σ (H.set i b') (w.putObj L.blk o)/\Stp W w (w.putObj L.blk o):=by
 have hi:=QX d (PR ho)
 exact ⟨h.rewrite hi ho hL (by simp) (fun k hk=>World.putObj_heap_other hk) a c,N1y (h.wr i b L hi ho hl hL)⟩
theorem Nwp (hC:CallOkS (Prg.mk P pf) C) {o:Oper} {J:AOp} (h:Nal P pureF false o=some J) (z:Inv (Prg.mk P pf) W lim σ H w) (hl:lim<=H.length)
  {ρ:Operand->Value} {a:Act} (hρ:∀x,PV x=true->VRel σ (ρ x) (a.eval x)) {L} (hx:XZ C lim J ρ H=some L)
  {K:Act->World->Prop} {Q:Exit->Act->World->Prop} (V:∀r∈L,∀v' w' A,Zz (Prg.mk P pf) W lim σ none H w r.1 r.2 v' w' A->K (a.put o.dst v') w'):o.wpIn (WF ro) 0 P a w K Q:=by
 by_cases u:∃mp f args,J=.call mp f args
 ·obtain ⟨mp,f,args,rfl⟩:=u
  have ab:∃c,o.op=.call c/\c.callee=.value f/\args=c.args.toList/\∀x∈o.op.operands,PV x=true:=by
   obtain ⟨dst,op,type,pos,after,guard⟩:=o
   unfold Nal at h
   split at h
   ·cases h
   rename_i O
   simp only [Bool.not_eq_true,Bool.not_eq_false'] at O
   have s:∀x∈op.operands,PV x=true:=fun x hx=>Nkx (o:=⟨dst,op,type,pos,after,guard⟩) (by simpa using O) hx
   cases op<;>(try simp only at h)<;>try (cases h;done)
   case call c=>
    refine ⟨c,rfl, ?_⟩
    cases hc:c.callee with
    | value f'=>rw [hc] at h;simp at h;obtain ⟨_,rfl,rfl⟩:=h;exact ⟨rfl,rfl,s⟩
    | invoke r m=>rw [hc] at h;simp at h
    | builtin b=>
      rw [hc] at h
      exfalso
      cases b<;>(try simp only at h)<;>(try (cases h;done))<;>(repeat' (split at h))<;>first
       | (cases h;done)
       | (simp only [Nb] at h;obtain ⟨_,_,h⟩:=h;cases h;done)
       | (exfalso;simp at h;done)
       | (obtain ⟨_,_,h⟩:=NV h;obtain ⟨_,_,h⟩:=NV h;obtain ⟨_,_,h⟩:=NV h;split at h<;>cases h;done)
   all_goals exfalso
   all_goals (repeat' (first | (obtain ⟨_,_,h⟩:=NV h) | split at h))
   all_goals first
    | (cases h;done)
    | (simp only [Nb] at h;obtain ⟨_,_,h⟩:=h;cases h;done)
    | contradiction
  obtain ⟨c,ho,p,rfl,s⟩:=ab
  simp only [XZ] at hx
  split at hx
  case h_2=>cases hx
  rename_i g as l
  split at hx
  case h_2=>cases hx
  rename_i L0 k
  have ac:∀r∈L0,r∈L:=fun r hr=>by
   obtain ⟨y,hy,e⟩:=Yk hx r hr
   have:=(Sn e).1
   cases this
   exact hy
  obtain ⟨I,D⟩:=CM.lim_le mp hl
  have n:=z.up I
  generalize mp.lim lim H=lim' at k I D n
  generalize mp.isPure=ad at k
  have S:∀{ρ'},o.semAt (WF ro).round ρ'=execOp ρ' o:=fun {ρ'}=>Oper.semAt_eq _ _ _ fun c' e=>by rw [ho] at e;cases e
  refine ⟨fun _ _=>trivial, ?_⟩
  rw [S]
  have aa:PV f=true:=s f (by rw [ho];simp [Op.operands,Call.operands,p])
  have B:=hρ f aa
  have t:OG σ (c.args.toList.map ρ) (c.args.map a.eval).toList:=by
   have:(c.args.map a.eval).toList=c.args.toList.map a.eval:=by simp
   rw [this]
   exact Vy fun x hx=>hρ x (s x (by rw [ho];simp only [Op.operands,Call.operands,p];simp at hx⊢;exact .inr hx))
  have fin:∀{M:Ending} {w':World} {K':Value->World->Prop},(∃r∈L0,R8 (Prg.mk P pf) W lim' σ H r.1 r.2 w M w')->(∀v',M=.returned v'->(∃r∈L,∃A,Zz (Prg.mk P pf) W lim σ none H w r.1 r.2 v' w' A)->K' v' w')->∃v',M=.returned v'/\K' v' w':=fun {M w' K'} hp hk=>by
   obtain ⟨r,hr,v',A,rfl,q1,q2,q3,q4,q5⟩:=hp
   obtain ⟨g1,g2⟩:=hC.grow _ _ _ _ _ _ k D r hr
   exact ⟨v',rfl,hk v' rfl ⟨r,ac r hr,A,q1,z.back q2 q4 g2,q3,q4,fun j hj=>.inr (q5 j hj),g1,g2.weaken I⟩⟩
  unfold NF at l
  split at l
  case h_3=>cases l
  case h_2=>
   rename_i i fi ca Y
   simp only [Option.some.injEq,Prod.mk.injEq] at l
   obtain ⟨rfl,rfl⟩:=l
   rw [Y] at B
   obtain ⟨L1,hL,rfl,rfl,G⟩:=B.yld_left
   simp only [On,Nc] at k
   obtain ⟨r,h1,h2,U⟩:=hC.rounds _ _ _ _ _ _ k D W σ w _ L1 n t hL
   simp only [Array.toArray_toList] at h2 U
   rw [Ne8 (P:=P) ho p G h1 h2,Oper.uponIn_round]
   refine ⟨ZY,Ndr (U.mono fun M w' hp=>?_)⟩
   obtain ⟨v',rfl,hk⟩:=fin (K':=fun v' w'=>K (a.put o.dst v') w') hp fun v' _ ⟨r,hr,A,hn⟩=>V r hr v' w' A hn
   exact hk
  rename_i g' fi ca Y
  simp only [Option.some.injEq,Prod.mk.injEq] at l
  obtain ⟨rfl,rfl⟩:=l
  rw [Y] at B
  obtain ⟨F,E,G,Z,X⟩:=B.func_left
  obtain ⟨fn,h1,h2,U⟩:=hC.fn _ _ _ _ _ _ k
  have R:=Ne9 (P:=P) (w:=w) ho p G h1 h2 U
  have q:=hC.calls _ _ _ _ _ _ k D W σ w (F.toList++(c.args.map a.eval).toList++E.toList) n ((Z.append t).append X)
  have e:(F.toList++(c.args.map a.eval).toList++E.toList).toArray=F++c.args.map a.eval++E:=by
   apply Array.ext';simp
  rw [e] at q
  rw [R,Oper.uponIn_enter]
  refine ⟨ZY,Ne6 (q.mono fun M w' hp=>?_)⟩
  obtain ⟨v',rfl,hk⟩:=fin (K':=fun v' w'=>K (a.put o.dst v') w') hp fun v' _ ⟨r,hr,A,hn⟩=>V r hr v' w' A hn
  exact hk
 ·have N:∀mp f args,J≠.call mp f args:=fun mp f args e=>u ⟨mp,f,args,e⟩
  have T:(NJ lim none J ρ H).map (fun r=>[r])=some L:=by
   cases J<;>first | exact hx | exact absurd rfl (N _ _ _)
  simp only [Nb] at T
  obtain ⟨⟨v,H'⟩,hv,rfl⟩:=T
  refine Nsb (Nmr (Prg.mk P pf)) (dest:=none) h z hl (fun d e=>by cases e) (fun d e=>by cases e) hρ (v:=v) (H':=H') (by rw [OI N];exact hv) fun v' w' A hn=>V (v,H') (by simp) v' w' A hn
theorem Nsd {o:Oper} {x:Operand} {k:Nat} (f:N1u P o=some (x,k)) (d:Inv (Prg.mk P pf) W lim σ H w) (hl:lim<=H.length)
  {ρ:Operand->Value} {a:Act} (hρ:∀x,PV x=true->VRel σ (ρ x) (a.eval x)) {L} {i:AIns} (ak:i.op=.mov x) (al:i.dest=some k) (hx:stepX C lim i ρ H=some L)
  {K:Act->World->Prop} {Q:Exit->Act->World->Prop} (hK:∀r∈L,∀v' w' σ',Zz (Prg.mk P pf) W lim σ none H w r.1 r.2 v' w' σ'->K (a.put o.dst v') w'):o.wpIn (WF ro) 0 P a w K Q:=by
 obtain ⟨dst,op,type,pos,after,guard⟩:=o
 unfold N1u at f
 split at f
 ·cases f
 rename_i ad
 simp only [Bool.not_eq_true,Bool.not_eq_false'] at ad
 have E:∀x∈op.operands,PV x=true:=fun x hx=>Nkx (o:=⟨dst,op,type,pos,after,guard⟩) (by simpa using ad) hx
 unfold stepX at hx
 rw [al,ak] at hx
 simp only [Ndd] at hx
 have fin:∀{v v':Value} {H1:NA} {Z:World} {σ1:PH},(v,H1)∈L->(execOp a.eval ⟨dst,op,type,pos,after,guard⟩).run P w=.ok (.value v') Z->Zz (Prg.mk P pf) W lim σ none H w v H1 v' Z σ1->Oper.wpIn (WF ro) 0 P ⟨dst,op,type,pos,after,guard⟩ a w K Q:=fun {v v' H1 Z σ1} hm hr hn=>by
  have aj:∀c,op≠.defer c:=fun c e=>by
   subst e
   simp at f
  refine ⟨fun _ _=>trivial, ?_⟩
  rw [Oper.semAt_eq _ _ _ aj,hr,Oper.uponIn_value]
  exact hK _ hm _ _ _ hn
 cases op<;>simp only at f<;>try (cases f;done)
 case range t y=>
  split at f
  case h_2=>cases f
  rename_i kt et I
  cases f
  have hv:=hρ x (E x (by simp [Op.operands]))
  simp only at hx
  simp only [Nb] at hx
  obtain ⟨p,hp,rfl⟩:=hx
  unfold Uh at hp
  split at hp
  case h_2=>cases hp
  rename_i m es hm g
  cases hp
  rw [hm] at g hv
  rcases d.entries hv g with ⟨h,rfl⟩ | ⟨r,L,ents,clock,D,z,hL,h,G,B,s⟩
  ·have aq:m=none:=by
    cases m with
    | none=>rfl
    | some r=>obtain ⟨L,_,h2⟩:=hv.map_left;rw [h] at h2;cases h2
   subst aq
   obtain ⟨i1,i2⟩:=d.push (b:=.iter none 0 []) (o:=.mapIter none 0 #[] 0) rfl ⟨rfl,none,rfl,World.alloc_heap_new _ _,fun j l=>by cases l⟩
   refine fin (Nl.2 rfl) (v':=.pointer (some ⟨w.heap.size,0,none⟩)) (by
    simp only [execOp]
    refine OT P w _ ?_
    rw [h]
    exact run_range_nilMap w t kt et I) ⟨by have:=VRel.ptr (σ:=σ.put H.length ⟨w.heap.size,0,0⟩) (k:=0) PH.put_same;simpa using this,i1,Stp.alloc d.fresh _,PH.le_put (d.dom _ (Nd _)),i2,by simp,Grow.app hl fun b z _=>by simp at z;subst z;rfl⟩
  ·cases D
   obtain ⟨t1,t2⟩:=d.stamps z hL G
   have hle:=PH.le_put (L:=⟨w.heap.size,0,0⟩) (d.dom _ (Nd H.length))
   obtain ⟨i1,i2⟩:=d.push (b:=.iter (some r) es.length []) (o:=.mapIter (some L.blk) clock #[] clock) rfl ⟨rfl,some L.blk,⟨L,hle _ _ hL,rfl⟩,by rw [<-t1];exact World.alloc_heap_new _ _,fun j l=>by cases l⟩
   refine fin (Nl.2 rfl) (v':=.pointer (some ⟨w.heap.size,0,none⟩)) (by
    simp only [execOp]
    refine OT P w _ ?_
    rw [h]
    exact run_range_map w t kt et L.blk ents clock I G) ⟨by have:=VRel.ptr (σ:=σ.put H.length ⟨w.heap.size,0,0⟩) (k:=0) PH.put_same;simpa using this,i1,Stp.alloc d.fresh _,hle,i2,by simp,Grow.app hl fun b z _=>by simp at z;subst z;rfl⟩
 case next it XO=>
  split at f
  ·cases f
  rename_i hs
  cases f
  have hv:=hρ x (E x (by simp [Op.operands]))
  simp only at hx
  unfold Zw at hx
  split at hx
  case h_2=>cases hx
  rename_i r hr
  rw [hr] at hv
  obtain ⟨Lr,aa,_,X⟩:=hv.ptr_left
  split at hx
  case h_2=>cases hx
  rename_i m n seen z
  split at hx
  case isFalse=>cases hx
  rename_i ac
  split at hx
  case h_2=>cases hx
  rename_i es g
  split at hx
  case isFalse=>cases hx
  rename_i hn
  obtain ⟨L',h1,R⟩:=d.blk r _ (QX z rfl) rfl
  have J:σ r=some Lr:=aa
  rw [J] at h1;cases h1
  obtain ⟨h0,m',hm,G,ae⟩:=R
  have hp:a.eval x=.pointer (some ⟨Lr.blk,0,none⟩):=by rw [X,h0];rfl
  have au:XO=false:=by simpa using hs
  subst au
  cases m with
  | none=>
    cases hm
    have e0:es=[]:=by simp [mapEntries] at g;exact g
    subst e0
    have ao:n=0:=by simpa using hn.symm
    subst ao
    have I:SE 0 seen=[]:=rfl
    rw [I] at hx
    cases hx
    refine fin (Nl.2 rfl) (v':=.tuple #[.bool false]) (by
     simp only [execOp]
     refine OT P w _ ?_
     rw [hp]
     simp only [Instr.next,getObj,Sem.run_bind,Sem.run,G,Result.andThen]
     rfl) ⟨VRel.tuple_iff.2 (OG.cons (.atom rfl) OG.nil),d,Stp.refl _ _,PH.le_refl _,fun j l=>absurd rfl l,Nd _,Grow.refl _ _⟩
  | some mr=>
    obtain ⟨M,hM,rfl⟩:=hm
    have aw:NC H mr=.map es:=by
     simp only [mapEntries] at g
     split at g
     ·rename_i ah;cases g;exact ah
     ·cases g
    rcases d.entries (.map hM) g with ⟨h,_⟩ | ⟨r',L1,ents,clock,D,O,u,h,q,B,s⟩
    ·cases h
    cases D
    have N:L1=M:=by rw [u] at hM;cases hM;rfl
    subst N
    obtain ⟨t1,t2⟩:=d.stamps O u q
    rw [t1,hn] at q
    simp only [Option.isSome_some,if_true] at G
    rcases Nxx (P:=P) (ty:=type) G q t2 (by rw [B,hn]) with ⟨I,F⟩ | ⟨j,l,e,he,Z,Y,F⟩
    ·rw [I] at hx
     cases hx
     refine fin (Nl.2 rfl) (v':=.tuple #[.bool false]) (by
      simp only [execOp]
      refine OT P w _ ?_
      rw [hp]
      exact F) ⟨VRel.tuple_iff.2 (OG.cons (.atom rfl) OG.nil),d,Stp.refl _ _,PH.le_refl _,fun j l=>absurd rfl l,Nd _,Grow.refl _ _⟩
    ·have av:Yl (fun j=>match es[j]? with
       | some e=>if V4 e.1 then some (.tuple #[.bool true,e.1,e.2],H.set r (.iter (some mr) n (seen++[j]))) else none
       | none=>none) (SE n seen)=some L:=by
      cases I:SE n seen with
      | nil=>rw [I] at l;cases l
      | cons j0 l0=>rw [I] at hx;exact hx
     obtain ⟨y,hy,ey⟩:=Yk av j l
     have am:j<n:=by
      unfold SE at l
      exact List.mem_range.1 (Oy.1 l).1
     have A:j<es.length:=by omega
     rw [Nf A] at ey
     simp only at ey
     split at ey
     case isFalse=>cases ey
     rename_i U
     cases ey
     obtain ⟨k1,k2⟩:=s j es[j] e (Nf A) he
     have T:Inv (Prg.mk P pf) W lim σ H Z:=by rcases Y with rfl | rfl;exact d;exact d.drew
     have ag:Stp W w Z:=by rcases Y with rfl | rfl;exact Stp.refl _ _;exact Stp.drew
     have an:Lr.blk<Z.heap.size:=by
      have:=(Array.getElem?_eq_some_iff.1 G).1
      rcases Y with rfl | rfl<;>exact this
     obtain ⟨i1,i2⟩:=T.putLoop (o:=.mapIter (some L1.blk) n (seen++[j]).toArray n) (b':=.iter (some mr) n (seen++[j])) z rfl aa ac
      ⟨h0,some L1.blk,⟨L1,u,rfl⟩,by simpa using World.putObj_heap_same an,fun i hi=>by
       rcases N0.1 hi with hi | hi
       ·exact ae i hi
       ·rw [Nl] at hi;subst hi;exact am⟩ (fun _=>rfl)
     refine fin hy (v':=.tuple #[.bool true,e.key,e.val]) (by
      simp only [execOp]
      refine OT P w _ ?_
      rw [hp]
      exact F) ⟨VRel.tuple_iff.2 (OG.cons (.atom rfl) (OG.cons (by rw [<-k1];exact Nb1 U) (OG.cons k2 OG.nil))),i1,ag.trans i2,PH.le_refl _,fun j l=>absurd rfl l,by simp,Grow.set ac fun _=>rfl⟩
 case entry it=>
  cases f
  have hv:=hρ x (E x (by simp [Op.operands]))
  simp only at hx
  simp only [Nb] at hx
  obtain ⟨p,hp,rfl⟩:=hx
  unfold Y7 at hp
  split at hp
  case h_2=>cases hp
  rename_i r hr
  rw [hr] at hv
  obtain ⟨L,hL,_,X⟩:=hv.ptr_left
  split at hp
  case h_2=>cases hp
  rename_i mr n seen z
  split at hp
  case h_2=>cases hp
  rename_i es j g V
  split at hp
  case isFalse=>cases hp
  rename_i hn
  split at hp
  case h_2=>cases hp
  rename_i e0 ab
  split at hp
  case isFalse=>cases hp
  rename_i U
  cases hp
  obtain ⟨L',h1,R⟩:=d.blk r _ (QX z rfl) rfl
  have J:σ r=some L:=hL
  rw [J] at h1;cases h1
  obtain ⟨h0,m',⟨M,hM,rfl⟩,G,ae⟩:=R
  have ar:a.eval x=.pointer (some ⟨L.blk,0,none⟩):=by rw [X,h0];rfl
  rcases d.entries (.map hM) g with ⟨h,_⟩ | ⟨r',L1,ents,clock,D,O,u,h,q,B,s⟩
  ·cases h
  cases D
  have N:L1=M:=by rw [u] at hM;cases hM;rfl
  subst N
  obtain ⟨t1,t2⟩:=d.stamps O u q
  rw [t1,hn] at q
  simp only [Option.isSome_some,if_true] at G
  have ax:j<es.length:=(List.getElem?_eq_some_iff.1 ab).1
  have A:j<ents.size:=by omega
  obtain ⟨k1,k2⟩:=s j e0 ents[j] ab (by simp [A])
  obtain ⟨s0,rfl⟩:∃s0,seen=s0++[j]:=by
   exact List.getLast?_eq_some_iff.1 V
  have S:ents.find? (·.born == j)=some ents[j]:=by
   rw [<-Array.find?_toList]
   have ap:(ents.toList.map (·.born)).Nodup:=by
    have:ents.toList.map (·.born)=List.range ents.size:=by
     apply Pe (by simp)
     intro i h1 h2
     simp at h1 h2
     simp
     exact t2 i ents[i] (by simp)
    rw [this];exact List.nodup_range
   have:=find_born ents[j] ents.toList ap (by simp)
   rw [t2 j ents[j] (by simp [A])] at this
   exact this
  refine fin (Nl.2 rfl) (v':=.tuple #[ents[j].key,ents[j].val]) (by
   simp only [execOp]
   refine OT P w _ ?_
   rw [ar]
   have ai:(s0++[j]).toArray.back? = some j:=by simp
   simp only [Instr.entry,getObj,Sem.run_bind,Sem.run,G,q,ai,Result.andThen,bne_self_eq_false,Nz,if_false,S]
   rfl) ⟨VRel.tuple_iff.2 (OG.cons (by rw [<-k1];exact Nb1 U) (OG.cons k2 OG.nil)),d,Stp.refl _ _,PH.le_refl _,fun j l=>absurd rfl l,Nd _,Grow.refl _ _⟩
theorem N29 (hC:CallOkS (Prg.mk P pf) C) {ops:Array Oper} {j:Nat} {o:Oper} (t:ops[j]? = some o) {i:AIns} (c:XX P pureF ops o=some i) {N:Nat} {fr:Nat->Value} {a:Act} (hs:State (Prg.mk P pf) ds W lim σ N fr H a w)
  {L} (hx:ZG C N lim i fr H=some L) {K:Act->World->Prop} {Q:Exit->Act->World->Prop} (v:∀r∈L,∀m a' w',State (Prg.mk P pf) ds W lim m N r.1 r.2 a' w'->Stp W w w'->PH.le σ m->Grow lim H r.2->(∀j,m j≠σ j->H.length<=j)->H.length<=r.2.length->K a' w'):wpOpIn (WF ro) 0 P ops Q j K a w:=by
 have e:(∃n,Nal P pureF false o=some n/\i.op=n/\i.dest=none\/∃x k,N1u P o=some (x,k)/\i.op=.mov x/\i.dest=some k)/\i.dst=o.dst/\Me ops o.guard=some i.guard:=by
  unfold XX at c
  split at c
  ·rename_i J hi'
   cases c
   obtain ⟨n,d,hi'⟩:=NV hi'
   obtain ⟨g,s,hi'⟩:=NV hi'
   cases hi'
   exact ⟨⟨n,.inl ⟨d,rfl,rfl⟩⟩,rfl,s⟩
  ·obtain ⟨⟨x,k⟩,d,c⟩:=NV c
   obtain ⟨g,s,c⟩:=NV c
   cases c
   exact ⟨⟨default,.inr ⟨x,k,d,rfl,rfl⟩⟩,rfl,s⟩
 obtain ⟨e,l,s⟩:=e
 unfold wpOpIn
 rw [t]
 simp only
 unfold ZG at hx
 cases hw:Rx N fr i.guard with
 | none=>rw [hw] at hx;cases hx
 | some b=>
 rw [hs.fr.wanted s hw]
 rw [hw] at hx
 cases b with
 | false=>
   simp only [Nz,if_false]
   simp only [Nb] at hx
   obtain ⟨f,q,rfl⟩:=hx
   rw [l] at q
   exact ⟨fun _ _=>trivial,v _ (Nl.2 rfl) σ _ w ⟨hs.fr.put (.atom rfl) q,hs.inv,hs.lim⟩ (Stp.refl _ _) (PH.le_refl _) (Grow.refl _ _) (fun j t=>absurd rfl t) (Nd _)⟩
 | true=>
   simp only [if_true]
   simp only at hx
   split at hx
   case h_2=>cases hx
   rename_i L0 h
   have go:∀r∈L0,∀v' w' m,Zz (Prg.mk P pf) W lim σ none H w r.1 r.2 v' w' m->K (a.put o.dst v') w':=fun r hr v' w' m hn=>by
    obtain ⟨y,A,u⟩:=Yk hx r hr
    simp only [Nb] at u
    obtain ⟨f,q,rfl⟩:=u
    rw [l] at q
    obtain ⟨B,D,E,z,F,G,I⟩:=hn
    exact v _ A m _ w' ⟨(hs.fr.mono z).put B q,D,by have:=hs.lim;simp only;omega⟩ E z I (fun j t=>(F j t).resolve_left (by simp)) G
   obtain ⟨n,⟨d,h1,h2⟩ | ⟨x,k,d,h1,h2⟩⟩:=e
   ·have p:XZ C lim n (ev fr) H=some L0:=by
     unfold stepX at h
     rw [h2,h1] at h
     exact h
    exact Nwp hC d hs.inv hs.lim (fun x hx=>hs.fr.ev hx) p go
   ·exact Nsd d hs.inv hs.lim (fun x hx=>hs.fr.ev hx) h1 h2 h go
theorem Zk (hC:CallOkS (Prg.mk P pf) C) {ops:Array Oper} {N:Nat} {Q:Exit->Act->World->Prop} (W:Nat->Prop) (lim:Nat) (c:PH) (H0:NA) (n:World) {l:List AIns} (hl:ops.toList.mapM (XX P pureF ops)=some l) :
  ∀(m s:Nat) (fr:Nat->Value) (H:NA) (a:Act) (w:World) (σ:PH) (h:List ((Nat->Value)×NA)),
   (∀r∈h,∀a w σ,State (Prg.mk P pf) ds W lim σ N r.1 r.2 a w->Stp W n w->PH.le c σ->Grow lim H0 r.2->(∀j,σ j≠c j->H0.length<=j)->H0.length<=r.2.length->Q .normal a w)->
   s+m=ops.size->State (Prg.mk P pf) ds W lim σ N fr H a w->Stp W n w->PH.le c σ->Grow lim H0 H->(∀j,σ j≠c j->H0.length<=j)->H0.length<=H.length->
   XN C N lim (l.drop s) fr H=some h->wpOpsIn (WF ro) 0 P ops Q (List.range' s m) a w
 | 0,s,fr,H,a,w,σ,h,hQ,hs,hst,h1,h2,h3,h4,h5,hx=>by
   have b:=(M7 hl).1
   have:l.drop s=[]:=by
    apply Qj
    rw [b];simp;omega
   rw [this] at hx
   simp [XN] at hx
   subst hx
   simp only [List.range'_zero,wpOpsIn]
   exact hQ (fr,H) (by simp) a w σ hst h1 h2 h3 h4 h5
 | m+1,s,fr,H,a,w,σ,h,hQ,hs,hst,h1,h2,h3,h4,h5,hx=>by
   obtain ⟨b,NC⟩:=M7 hl
   have d:s<l.length:=by rw [b];simp;omega
   have f:s<ops.size:=by omega
   rw [Ow d] at hx
   simp only [XN] at hx
   split at hx
   case h_2=>cases hx
   rename_i L hL
   have k:=NC s ops[s] l[s] (by simp [f]) (by simp [d])
   rw [List.range'_succ,wpOpsIn_cons]
   refine N29 hC (by simp [f]) k hst hL fun r hr z a' w' q t u v y A=>?_
   obtain ⟨o,i,g⟩:=UG hx r hr
   exact Zk hC W lim c H0 n hl m (s+1) r.1 r.2 a' w' z o (fun x hx=>hQ x (g x hx)) (by omega) q (h1.trans t) (PH.le_trans h2 u) (h3.trans v)
    (fun j p=>by
     apply Of
     intro hc
     have e1:σ j=c j:=Ok fun e=>hc (h4 j e)
     have:=y j (fun e=>p (e.trans e1))
     omega) (by omega) i
end
end Go.AM


namespace Go.AM
open Go.RowKit
structure EnvOk (P:Program) (E:Env):Prop where
 tr:∀g af,E.tr g=some af->Vg P E.pure g=some af
 orcFn:∀g as v,E.orc g as=some v->∃fn,P.funcs[g]? = some fn/\fn.body.isSome=true/\(fn.name == "runtime.NumGoroutine")=false
 orc:∀g as v,E.orc g as=some v->∀w,Calls P g as.toArray w fun e w'=>e=.returned v/\Below w.heap.size w w'/\w.drawn<=w'.drawn
 orcFlat:∀g as v,E.orc g as=some v->∀σ,VRel σ v v
 mixed:P.follows .mixedOrders=true
 effFn:∀g as H r,E.eff g as H=some r->∃fn,P.funcs[g]? = some fn/\fn.body.isSome=true/\(fn.name == "runtime.NumGoroutine")=false
 eff:∀g as H r,E.eff g as H=some r->∀lim,lim<=H.length->XU lim H r.2.2=true->∀W σ w as',Inv (Prg.mk P (Env.pure E)) W lim σ H w->OG σ as as'->Calls P g as'.toArray w (R8 (Prg.mk P (Env.pure E)) W lim σ H r.1 (Np0 H r.2) w)
theorem VRel.eq_of_atom {σ:PH} {v v':Value} (h:VRel σ v v') (ha:AM.atom v=true):v'=v:=by
 cases h with
 | atom _=>rfl
 | func h1 h2 k1 k2=>
   simp [AM.atom] at ha
   obtain ⟨rfl,rfl⟩:=ha
   simp at h1 h2
   rw [Array.size_eq_zero_iff.1 h1.symm,Array.size_eq_zero_iff.1 h2.symm]
 | tuple h k=>
   simp [AM.atom] at ha
   subst ha
   rw [Array.size_eq_zero_iff.1 h.symm]
 | _=>simp [AM.atom] at ha
theorem VRel.flat_self {τ:PH}:∀(n:Nat) {σ:PH} {v v':Value},VRel σ v v'->flat n v=true->VRel τ v v'
 | 0,σ,v,v',h,hf=>by
   have ha:AM.atom v=true:=by cases v<;>simpa [flat] using hf
   rw [h.eq_of_atom ha];exact .atom ha
 | n+1,σ,v,v',h,hf=>by
   have at':AM.atom v=true->VRel τ v v':=fun ha=>by rw [h.eq_of_atom ha];exact .atom ha
   cases h with
   | agg h k o=>
     simp only [flat,N6] at hf
     exact .agg h (fun i h1 h2=>VRel.flat_self n (k i h1 h2) (hf _ (by simp))) o
   | tuple h k=>
     simp only [flat,N6] at hf
     exact .tuple h (fun i h1 h2=>VRel.flat_self n (k i h1 h2) (hf _ (by simp)))
   | atom h=>exact .atom h
   | func h1 h2 k1 k2=>exact at' (by simpa [flat] using hf)
   | _=>simp [flat,AM.atom] at hf
theorem M4 {n:Nat} (d:Nat) {v:Value} (h:AM.atom v=true):olds n d v=true:=by
 cases v with
 | pointer o=>
   cases o with
   | none=>cases d<;>rfl
   | some a=>simp [AM.atom] at h
 | map o=>
   cases o with
   | none=>cases d<;>rfl
   | some a=>simp [AM.atom] at h
 | slice o a b=>
   cases o with
   | none=>cases d<;>exact h
   | some a=>simp [AM.atom] at h
 | agg cs=>simp [AM.atom] at h
 | tuple cs=>
   have:cs=#[]:=by simpa [AM.atom] using h
   subst this
   cases d<;>rfl
 | _=>cases d<;>exact h
theorem Xm {n:Nat}:∀(d:Nat) {v:Value},flat d v=true->olds n d v=true
 | 0,v,h=>M4 0 (by cases v<;>simpa [flat] using h)
 | d+1,v,h=>by
   cases v with
   | agg cs=>simp only [flat,olds,N6] at h⊢;exact fun x hx=>Xm d (h x hx)
   | tuple cs=>simp only [flat,olds,N6] at h⊢;exact fun x hx=>Xm d (h x hx)
   | _=>exact M4 _ (by simpa [flat] using h)
theorem VRel.olds {σ τ:PH} {n:Nat} (hs:∀i L,i<n->σ i=some L->τ i=some L):∀(d:Nat) {v v':Value},VRel σ v v'->olds n d v=true->VRel τ v v'
 | 0,v,v',h,hf=>by
   cases h with
   | atom h=>exact .atom h
   | ptr h=>exact .ptr (hs _ _ (by simpa [AM.olds] using hf) h)
   | slice h hc=>exact .slice (hs _ _ (by simpa [AM.olds] using hf) h) hc
   | lslice h hn hr=>exact .lslice (hs _ _ (by simpa [AM.olds] using hf) h) hn hr
   | eslice h hc=>exact .eslice (hs _ _ (by simpa [AM.olds] using hf) h) hc
   | map h=>exact .map (hs _ _ (by simpa [AM.olds] using hf) h)
   | func h1 h2 k1 k2=>
     rw [(VRel.func h1 h2 k1 k2).eq_of_atom (by simpa [AM.olds] using hf)]
     exact .atom (by simpa [AM.olds] using hf)
   | yld h=>simp [AM.olds,AM.atom] at hf
   | agg h k o=>simp [AM.olds,AM.atom] at hf
   | @tuple xs ys h k=>
     have ha:AM.atom (.tuple xs)=true:=by simpa [AM.olds] using hf
     rw [(VRel.tuple h k).eq_of_atom ha]
     exact .atom ha
 | d+1,v,v',h,hf=>by
   cases h with
   | agg h k o=>
     simp only [AM.olds,N6] at hf
     exact .agg h (fun i h1 h2=>VRel.olds hs d (k i h1 h2) (hf _ (by simp))) o
   | tuple h k=>
     simp only [AM.olds,N6] at hf
     exact .tuple h (fun i h1 h2=>VRel.olds hs d (k i h1 h2) (hf _ (by simp)))
   | atom h=>exact .atom h
   | ptr h=>exact .ptr (hs _ _ (by simpa [AM.olds] using hf) h)
   | slice h hc=>exact .slice (hs _ _ (by simpa [AM.olds] using hf) h) hc
   | lslice h hn hr=>exact .lslice (hs _ _ (by simpa [AM.olds] using hf) h) hn hr
   | eslice h hc=>exact .eslice (hs _ _ (by simpa [AM.olds] using hf) h) hc
   | map h=>exact .map (hs _ _ (by simpa [AM.olds] using hf) h)
   | func h1 h2 k1 k2=>
     rw [(VRel.func h1 h2 k1 k2).eq_of_atom (by simpa [AM.olds] using hf)]
     exact .atom (by simpa [AM.olds] using hf)
   | yld h=>simp [AM.olds,AM.atom] at hf
section
variable {P:Program} {pf:FuncId->Bool} {W:Nat->Prop} {lim:Nat} {σ:PH} {H H':NA} {w:World} {ds:List Deferred}
inductive Md where
 | n | m | r (i:Nat)
def trX (P:Program) (pf:FuncId->Bool):Md->Code->Option ACode
 | .n=>Xe P pf
 | .m=>TD P pf
 | .r _=>SQ P pf
inductive XC (P:Program) (pf:FuncId->Bool):Md->Code->ACode->Prop
 | skip {md}:XC P pf md .skip .skip
 | plain {md id ops l} (h:ops.toList.mapM (XX P pf ops)=some l):XC P pf md (.region id ops false) (.ops l)
 | drawn {md id ops n L} (h:Vq P pf ops=some (.drawn n L)):XC P pf md (.region id ops true) (.drawn n L)
 | seq {md a b a' b'} (h:trX P pf md a=some a') (k:trX P pf md b=some b'):XC P pf md (.seq a b) (.seq a' b')
 | cond {md c a b a' b'} (ho:PV c=true) (h:trX P pf md a=some a') (k:trX P pf md b=some b'):XC P pf md (.cond c a b) (.cond c a' b')
 | block {md id a a'} (h:trX P pf md a=some a'):XC P pf md (.block id a) (.block id a')
 | loop {md a a'} (h:trX P pf md a=some a'):XC P pf md (.loop a) (.loop a')
 | exit {md id} (h:∀i,md≠.r i):XC P pf md (.exit id) (.exit id)
 | exitR {i id}:XC P pf (.r i) (.exit id) (.exitR id)
 | ret:XC P pf .n .ret .ret
 | retM:XC P pf .m .ret .retM
 | retR {i}:XC P pf (.r i) .ret .retR
 | rangeF {f ps a b a' b'} (ho:PV f=true) (h:SQ P pf a=some a') (k:SQ P pf b=some b'):XC P pf .m (.rangeFunc f ps a b) (.rangeF f ps.toList a' b')
theorem Nfx {ops:Array Oper} {c:ACode} (h:Vq P pf ops=some c):∃n L,c=.drawn n L:=by
 obtain ⟨st,h⟩:∃st,WI P pf st ops=some c:=by
  unfold Vq at h
  split at h
  ·rename_i hc;cases h;exact ⟨_,hc⟩
  ·exact ⟨_,h⟩
 unfold WI at h
 obtain ⟨l,hl,h⟩:=NV h
 simp only at h
 repeat' (split at h)
 all_goals first
  | (cases h;done)
  | (cases h;exact ⟨_,_,rfl⟩)
theorem Nr4 {md:Md} {C:Code} {c:ACode} (h:trX P pf md C=some c):XC P pf md C c:=by
 cases md<;>cases C<;>simp only [trX,Xe,TD,SQ] at h<;>try (cases h;done)
 all_goals first
  | (cases h;first | exact .skip | exact .exit (by intros;nofun) | exact .exitR | exact .ret | exact .retM | exact .retR;done)
  | (rename_i id ops d
     cases d with
     | false=>simp only [Nz,if_false] at h;obtain ⟨l,hl,h⟩:=NV h;cases h;exact .plain hl
     | true=>simp only [if_true] at h;obtain ⟨n,L,rfl⟩:=Nfx h;exact .drawn h
     done)
  | (obtain ⟨f,a,h⟩:=NV h;obtain ⟨g,b,h⟩:=NV h;cases h;exact .seq a b;done)
  | (obtain ⟨f,a,h⟩:=NV h;cases h;first | exact .block a | exact .loop a;done)
  | (split at h
     case isFalse=>cases h
     rename_i e
     obtain ⟨f,a,h⟩:=NV h;obtain ⟨g,b,h⟩:=NV h;cases h;first | exact .cond e a b | exact .rangeF e a b
     done)
inductive KRel (P:Program) (pf:FuncId->Bool):Md->List Nat->List AItem->List Item->Prop
 | nilN:KRel P pf .n [] [] []
 | nilM {ms:List Nat}:KRel P pf .m ms (.code .retM::ms.map .mark) []
 | nilR {i:Nat}:KRel P pf (.r i) [] [.round i] []
 | code {md ms c C k K} (h:trX P pf md C=some c) (t:KRel P pf md ms k K):KRel P pf md ms (.code c::k) (.code C::K)
 | inBlock {md ms id k K} (t:KRel P pf md ms k K):KRel P pf md ms (.inBlock id::k) (.inBlock id::K)
 | inLoop {md ms c C k K} (h:trX P pf md C=some c) (t:KRel P pf md ms k K):KRel P pf md ms (.inLoop c::k) (.inLoop C::K)
 | begin {i ms k K} (t:KRel P pf (.r i) ms k K):KRel P pf (.r i) ms (.begin i::k) (.beginRound::K)
theorem Nch {id:Nat}:∀(ms:List Nat),Rs id (ms.map .mark)=none
 | []=>rfl
 | i::ms=>by simp only [N9,Rs];exact Nch ms
theorem KRel.exit {md:Md} {ms:List Nat} {id:Nat} {k k':List AItem} {K:List Item} (h:KRel P pf md ms k K) (he:Rs id k=some k'):∃K',exitTo id K=some K'/\KRel P pf md ms k' K':=by
 induction h with
 | nilN=>simp [Rs] at he
 | nilM=>simp only [Rs,Nch] at he;cases he
 | nilR=>simp [Rs] at he
 | code h t ih=>simp only [Rs] at he;simp only [exitTo];exact ih he
 | inLoop h t ih=>simp only [Rs] at he;simp only [exitTo];exact ih he
 | begin t ih=>simp only [Rs] at he;simp only [exitTo];exact ih he
 | inBlock t ih=>
   simp only [Rs] at he
   simp only [exitTo,beq_iff_eq]
   split at he
   ·rename_i e;rw [Nh e];cases he;exact ⟨_,rfl,t⟩
   ·rename_i e;rw [Ng e];exact ih he
theorem KRel.noExit {md:Md} {ms:List Nat} {id:Nat} {k:List AItem} {K:List Item} (h:KRel P pf md ms k K) (he:Rs id k=none):exitTo id K=none:=by
 induction h with
 | nilN=>rfl
 | nilM=>rfl
 | nilR=>rfl
 | code h t ih=>simp only [Rs] at he;simp only [exitTo];exact ih he
 | inLoop h t ih=>simp only [Rs] at he;simp only [exitTo];exact ih he
 | begin t ih=>simp only [Rs] at he;simp only [exitTo];exact ih he
 | inBlock t ih=>
   simp only [Rs] at he
   simp only [exitTo,beq_iff_eq]
   split at he
   ·cases he
   ·rename_i e;rw [Ng e];exact ih he
theorem KRel.roundOf {i:Nat} {ms:List Nat} {k:List AItem} {K:List Item} (h:KRel P pf (.r i) ms k K):roundOf k=some i:=by
 generalize hm:Md.r i=md at h
 induction h with
 | nilN=>cases hm
 | nilM=>cases hm
 | nilR=>cases hm;rfl
 | code h t ih=>simp only [AM.roundOf];exact ih hm
 | inLoop h t ih=>simp only [AM.roundOf];exact ih hm
 | begin t ih=>simp only [AM.roundOf];exact ih hm
 | inBlock t ih=>simp only [AM.roundOf];exact ih hm
theorem Na1:∀(ms:List Nat),marks (ms.map .mark)=ms.reverse
 | []=>rfl
 | i::ms=>by simp only [N9,marks,Na1 ms,List.reverse_cons]
theorem KRel.marks {ms:List Nat} {k:List AItem} {K:List Item} (h:KRel P pf .m ms k K):marks k=ms.reverse:=by
 generalize hm:Md.m=md at h
 induction h with
 | nilN=>cases hm
 | nilM=>simp only [AM.marks];exact Na1 _
 | nilR=>cases hm
 | code h t ih=>simp only [AM.marks];exact ih hm
 | inLoop h t ih=>simp only [AM.marks];exact ih hm
 | begin t ih=>cases hm
 | inBlock t ih=>simp only [AM.marks];exact ih hm
theorem KRel.addMark {ms:List Nat} {k:List AItem} {K:List Item} (h:KRel P pf .m ms k K) (i:Nat):KRel P pf .m (ms++[i]) (k++[.mark i]) K:=by
 generalize hm:Md.m=md at h
 induction h with
 | nilN=>cases hm
 | @nilM ms=>have:(KRel P pf .m (ms++[i]) (.code .retM::(ms++[i]).map .mark) []):=.nilM
             simpa using this
 | nilR=>cases hm
 | code h t ih=>subst hm;exact .code h (ih rfl)
 | inLoop h t ih=>subst hm;exact .inLoop h (ih rfl)
 | begin t ih=>cases hm
 | inBlock t ih=>subst hm;exact .inBlock (ih rfl)
def Nfv (lim:Nat) (σ:PH):List Nat->List Deferred->Prop
 | [],ds=>ds=[]
 | i::l,ds=>∃L a,lim<=i/\σ i=some L/\ds={ target:=.collected L.blk,args:=#[] }::a/\Nfv lim σ l a
theorem Nfv.mono {lim:Nat} {σ τ:PH} (hle:PH.le σ τ):∀{l:List Nat} {ds:List Deferred},Nfv lim σ l ds->Nfv lim τ l ds
 | [],_,h=>h
 | i::l,_,⟨L,ds',h0,h1,h2,h3⟩=>⟨L,ds',h0,hle _ _ h1,h2,Nfv.mono hle h3⟩
theorem Inv.pad (h:Inv (Prg.mk P pf) W lim σ H w) (n:Nat):Inv (Prg.mk P pf) W lim σ (H++List.replicate n .dead) w:=by
 have get:∀(j:Nat) b,(H++List.replicate n Blk.dead)[j]? = some b->alive b=true->H[j]? = some b:=fun j b a ha=>by
  by_cases c:j<H.length
  ·rw [N4 c] at a;exact a
  ·rw [Oc (by omega),P0] at a
   split at a
   ·cases a;simp [alive] at ha
   ·cases a
 exact ⟨fun i b a ha=>h.blk i b (get i b a ha) ha,fun i j bi bj Li Lj hi c d ho ha=>h.inj i j bi bj Li Lj (get i bi hi (PR ho)) (get j bj c ha) d ho ha,
  fun i b L a ho=>h.wr i b L (get i b a (PR ho)) ho,h.fresh,fun i hi=>h.dom i (by simp at hi;omega)⟩
theorem Nh4 {fr:Nat->Value} {N:Nat} {a:Act} (hs:State (Prg.mk P pf) ds W lim σ N fr H a w) {r:ResultVar} {i:ARes} (ht:Mc P r=some i) {v:Value} (hv:ND fr H i=some v) :
  ∃v',(match r with | .tmp t=>pure (a.tmps.getD t undef) | .cell b t=>do loadVar t (<-asAddr (a.tmps.getD b undef)):Sem Value).run P w=.ok v' w/\VRel σ v v':=by
 cases r with
 | tmp t=>
   simp only [Mc] at ht;cases ht
   simp only [ND] at hv;cases hv
   exact ⟨_,rfl,hs.fr.val t⟩
 | cell b t=>
   simp only [Mc] at ht
   obtain ⟨n,hn,ht⟩:=NV ht
   obtain ⟨j,d,ht⟩:=NV ht
   have e:=hs.fr.val b
   cases j with
   | true=>
     simp at ht;subst ht
     simp only [ND] at hv
     split at hv
     case h_2=>cases hv
     rename_i p hp
     simp only [Nb] at hv
     obtain ⟨c,hc,rfl⟩:=hv
     rw [hp] at e
     obtain ⟨L,hL,h,h2⟩:=e.ptr_left
     obtain ⟨v',f,g⟩:=Nby (P:=P) hs.inv d hn hL hc
     exact ⟨v',by simp only [h2];simp [asAddr,f],g⟩
   | false=>
     simp at ht;subst ht
     simp only [ND] at hv
     split at hv
     case h_2=>cases hv
     rename_i p hp
     rw [hp] at e
     obtain ⟨L,hL,h,h2⟩:=e.ptr_left
     obtain ⟨v',f,g⟩:=Nbz (P:=P) hs.inv d hL hv
     exact ⟨v',by simp only [h2];simp [asAddr,f],g⟩
theorem Mr {fr:Nat->Value} {N:Nat} {a:Act} (hs:State (Prg.mk P pf) ds W lim σ N fr H a w):∀{f:List ResultVar} {c:List ARes} {vs:List Value},f.mapM (Mc P)=some c->U9 fr H c=some vs->
  ∃d,(f.mapM (fun r=>(match r with | .tmp t=>pure (a.tmps.getD t undef) | .cell b t=>do loadVar t (<-asAddr (a.tmps.getD b undef)):Sem Value))).run P w=.ok d w/\OG σ vs d
 | [],c,vs,h,hv=>by
   simp at h;subst h
   simp [U9] at hv;subst hv
   exact ⟨[],by simp,OG.nil⟩
 | r::f,c,vs,h,hv=>by
   rw [List.mapM_cons] at h
   obtain ⟨b,g,h⟩:=NV h
   obtain ⟨k,e,h⟩:=NV h
   cases h
   simp only [U9] at hv
   split at hv
   case h_2=>cases hv
   rename_i v j h1 h2
   cases hv
   obtain ⟨v',k1,k2⟩:=Nh4 hs g h1
   obtain ⟨d,k3,i⟩:=Mr hs e h2
   refine ⟨v'::d, ?_,OG.cons k2 i⟩
   rw [List.mapM_cons]
   simp only [Sem.run_bind,k1,k3,Result.andThen_ok,Sem.run_pure]
theorem Zj {fr:Nat->Value} {N:Nat} {a:Act} (hs:State (Prg.mk P pf) ds W lim σ N fr H a w) {fn:Func} {c:List ARes} (ht:fn.results.toList.mapM (Mc P)=some c) {v:Value} (hv:result fr H c=some v) :
  ∃v',(results fn a.tmps).run P w=.ok v' w/\VRel σ v v':=by
 unfold result at hv
 cases hr:U9 fr H c with
 | none=>rw [hr] at hv;cases hv
 | some vs=>
   obtain ⟨b,k1,k2⟩:=Mr hs ht hr
   rw [hr] at hv
   unfold results
   rw [Array.mapM_eq_mapM_toList]
   simp only [Sem.run_bind,Sem.run_map]
   erw [k1]
   simp only [Result.andThen_ok,Sem.run_pure]
   refine ⟨_,rfl, ?_⟩
   match vs,b,k2 with
   | [],b,k2=>
     have:b=[]:=by have:=k2.1;simp at this;exact List.length_eq_zero_iff.1 this.symm
     subst this
     simp at hv;subst hv
     exact .atom rfl
   | [x],b,k2=>
     have hl:=k2.1
     match b,hl,k2 with
     | [y],_,k2=>simp at hv;subst hv;exact k2.head
   | x::y::zs,b,k2=>
     have hl:=k2.1
     match b,hl,k2 with
     | x'::y'::zs',_,k2=>
       simp at hv;subst hv
       have:¬((x'::y'::zs').toArray.size=1):=by simp
       rw [dif_neg this]
       exact VRel.tuple_iff.2 k2
theorem Inv.loop (h:Inv (Prg.mk P pf) W lim σ H w) {i:Nat} {x:LoopB} {L:Loc} (a:NC H i=.loop x) (hL:σ i=some L):∃lp,w.heap[L.blk]? = some (.loop lp)/\LoopRel (Prg.mk P pf) σ x lp:=by
 obtain ⟨b,h1,h2⟩:=h.blk i _ (QX a rfl) rfl
 rw [hL] at h1;cases h1
 exact h2
theorem Ndl {b:Frame} {a:Act} {todo:List Item} {cs:List Frame}:∀(l:List Nat) (ds:List Deferred) {H H':NA} {w:World},Nfv lim σ l ds->Inv (Prg.mk P pf) W lim σ H w->shut lim l H=some H'->
  ∃w',Steps P (lone { b.atR { a with defers:=ds } todo with mode:=.returning } cs w) (lone { b.atR { a with defers:=[] } todo with mode:=.returning } cs w')/\Inv (Prg.mk P pf) W lim σ H' w'/\Stp W w w'/\H'.length=H.length
 | [],ds,H,H',w,hd,hi,hs=>by
   cases hd;cases hs
   exact ⟨w,.refl _ _,hi,Stp.refl _ _,rfl⟩
 | i::l,ds,H,H',w,hd,hi,hs=>by
   obtain ⟨L,c,h0,h1,rfl,g⟩:=hd
   simp only [shut] at hs
   split at hs
   case h_2=>cases hs
   rename_i e
   rw [Nh h0] at hs
   obtain ⟨n,d,f⟩:=hi.blk i _ (QX e rfl) rfl
   rw [h1] at d;cases d
   obtain ⟨j,k⟩:=hi.putLoop (o:=.deferred none) (b':=.dead) e rfl h1 h0 trivial (fun h=>by simp [alive] at h)
   obtain ⟨w',k1,k2,k3,m⟩:=Ndl l c g j hs
   refine ⟨w',Steps.head (step_collected (fr:={ b.atR { a with defers:=_::c } todo with mode:=.returning }) (by simp) rfl rfl (run_takeDeferred f)) k1,k2,k.trans k3,by simpa using m⟩
theorem Nex (h:Inv (Prg.mk P pf) W lim σ H w) {i:Nat} {L:Loc} (hL:σ i=some L) (hl:lim<=i) {j:Option ACode} {J:Option Code}
  (a:match j with | none=>J=none | some c=>∃C,J=some C/\TD P pf C=some c) {v:Value} (he:endRound i j H=some (v,H')) :
  ∃w',(Instr.endRound L.blk J).run P w=.ok v w'/\VRel σ v v/\Inv (Prg.mk P pf) W lim σ H' w'/\Stp W w w':=by
 unfold endRound at he
 split at he
 case h_2=>cases he
 rename_i x e
 obtain ⟨lp,h1,h2⟩:=h.loop e hL
 have d:J.isNone=j.isNone:=by
  cases j with
  | none=>simp only at a;subst a;rfl
  | some c=>obtain ⟨C,rfl,_⟩:=a;rfl
 have b:L.blk<w.heap.size:=(Array.getElem?_eq_some_iff.1 h1).1
 simp only [Option.some.injEq,Prod.mk.injEq] at he
 obtain ⟨rfl,rfl⟩:=he
 obtain ⟨f,g⟩:=h.putLoop (o:=.loop { lp with state:=if J.isNone then .ready else .done,pending:=J }) (b':=.loop { x with st:=if j.isNone then 0 else 2,pend:=j }) e rfl hL hl
  ⟨_,World.putObj_heap_same b,by rw [d];cases j<;>rfl,a,h2.size,h2.val,h2.params,h2.assign,h2.body⟩ (fun _=>rfl)
 exact ⟨_,by rw [run_endRound J h1,d],.atom rfl,f,g⟩
end
section
variable {P:Program} {E:Env} {W:Nat->Prop} {lim:Nat} {σ:PH} {H H':NA} {w:World} {ds:List Deferred} {ro:Option Nat}
theorem Nh6 {C:SI} (hC:CallOkS (Prg.mk P (Env.pure E)) C) {pf:FuncId->Bool} {id:Nat} {ops:Array Oper} {l:List AIns} (hl:ops.toList.mapM (XX P pf ops)=some l) {N:Nat} {fr:Nat->Value} {a:Act}
  (hs:State (Prg.mk P (Env.pure E)) ds W lim σ N fr H a w) {LL} (hx:XN C N lim l fr H=some LL):(Code.region id ops false).wpIn (WF ro) 0 P (fun e a' w'=>∃r∈LL,N37 (Prg.mk P (Env.pure E)) ds W lim σ N r.1 H r.2 w e a' w') a w:=by
 refine wpIn_region ?_
 rw [List.range_eq_range']
 exact Zk hC W lim σ H w hl ops.size 0 fr H a w σ LL (fun r hr a m k c d f g h i=>⟨r,hr,rfl,k,c,d,f,g,h,i⟩) (by simp) hs (Stp.refl _ _) (PH.le_refl _) (Grow.refl _ _) (fun j b=>absurd rfl b) (Nd _) (by simpa using hx)
theorem Todo.start {ops:Array Oper} {ord:List Nat} (hm:∀i,i∈ord↔i<ops.size):Todo ops ord (Array.replicate ops.size false) ord:=by
 refine ⟨fun i=>?_,List.Sublist.refl _,by simp,fun i o ho hl=>?_⟩
 ·rw [hm]
  constructor
  ·intro hi
   refine ⟨hi, ?_⟩
   rw [N2,Ny (by simpa using hi)]
   simp
  ·exact fun h=>h.1
 ·exfalso
  rw [N2,Array.getElem?_replicate] at hl
  split at hl<;>simp at hl
theorem Nh7 {C:Tt} (hC:CallOk (Prg.mk P (Env.pure E)) C) {pf:FuncId->Bool} (hm:P.follows .mixedOrders=true) {id:Nat} {ops:Array Oper} {n:Nat} {L:List AIns} (hl:Vq P pf ops=some (.drawn n L)) {N:Nat} {fr fr':Nat->Value} {a:Act}
  (hs:State (Prg.mk P (Env.pure E)) ds W lim σ N fr H a w) (hx:Y2 C N lim (some H.length) L fr (H++List.replicate n .dead)=some (fr',H')):(Code.region id ops true).wpIn (WF ro) 0 P (fun e a' w'=>e=.normal/\∃k,State (Prg.mk P (Env.pure E)) ds W lim k N fr' H' a' w'/\Stp W w w'/\PH.le σ k/\(∀j,k j≠σ j->H.length<=j)) a w:=by
 refine wpIn_region_any hm ?_
 obtain ⟨ord,L0,pl,rfl⟩:=Np1 hl
 have d:ord.length=ops.size:=by
  have h1:ord.Perm (List.range ops.size):=(List.perm_ext_iff_of_nodup pl.nodup List.nodup_range).2 fun i=>by rw [pl.mem,List.mem_range]
  rw [h1.length_eq,Ps]
 have h:State (Prg.mk P (Env.pure E)) ds W lim σ N fr (H++List.replicate n .dead) a w.drew:=⟨hs.fr,(hs.inv.pad n).drew,by have:=hs.lim;simp;omega⟩
 refine Nhm hC pl fr' H' W lim hs.lim σ (H++List.replicate n .dead) w.drew (fun a v s m o p t q u=>⟨rfl,s,m,Stp.drew.trans o,p,q⟩) ops.size _ ord fr _ a w.drew σ d (Todo.start pl.mem) h (Stp.refl _ _) (PH.le_refl _) (Grow.refl _ _)
  (fun j l=>absurd rfl l) (Nd _) ⟨by simp,fun r hr b c ha=>?_,fun r hr=>hs.inv.dom _ (by omega),fun r hr=>?_⟩ ?_
 ·rw [Oc (by omega),P0] at c
  split at c
  ·cases c;simp [alive] at ha
  ·cases c
 ·obtain ⟨b,c,g⟩:=List.mem_filterMap.1 hr
  have f:b<L0.length:=by rw [pl.len];exact (pl.mem b).1 c
  exact pl.dest b _ r (by rw [Na,Nf f];rfl) (Na2 g)
 ·exact hx
def Fin (P:Program) (md:Md) (b:Frame) (cs:List Frame) (m:Machine) (v':Value) (w':World):Prop:=
 match md with
 | .r _=>∃c cs',cs=c::cs'/\m=lone (c.finish v') cs' w'
 | _=>∃fr,m=lone fr cs w'/\fr.fn=b.fn/\fr.leaving P w' (.returned v')
def XH (P:Program) (pf:FuncId->Bool) (W:Nat->Prop) (lim:Nat) (σ:PH) (md:Md) (v:Value) (H H':NA) (w:World) (b:Frame) (K:List Item) (cs:List Frame) (a:Act):Prop:=
 ∃m v' w' c,Steps P (lone (b.atR a K) cs w) m/\Fin P md b cs m v' w'/\VRel c v v'/\Inv (Prg.mk P pf) W lim c H' w'/\Stp W w w'/\PH.le σ c/\∀j,c j≠σ j->H.length<=j
theorem XH.step {pf:FuncId->Bool} {md:Md} {v:Value} {b:Frame} {K c:List Item} {cs:List Frame} {a:Act} (h:step P (lone (b.atR a K) cs w)=.next (lone (b.atR a c) cs w)) (k:XH P pf W lim σ md v H H' w b c cs a):XH P pf W lim σ md v H H' w b K cs a:=by
 obtain ⟨a',w',d,fr',h1,h2⟩:=k
 exact ⟨a',w',d,fr',Steps.head h h1,h2⟩
theorem XH.steps {pf:FuncId->Bool} {md:Md} {v:Value} {b:Frame} {K g:List Item} {cs:List Frame} {a i:Act} {f:World} {c:PH} {H1:NA} (h:Steps P (lone (b.atR a K) cs w) (lone (b.atR i g) cs f)) (d:Stp W w f) (hle:PH.le σ c) (hd:∀j,c j≠σ j->H.length<=j) (s:H.length<=H1.length)
  (k:XH P pf W lim c md v H1 H' f b g cs i):XH P pf W lim σ md v H H' w b K cs a:=by
 obtain ⟨m,v',w',r,h1,h2,l,n,h5,o,p⟩:=k
 refine ⟨m,v',w',r,Steps.trans h h1,h2,l,n,d.trans h5,PH.le_trans hle o,fun j q=>?_⟩
 apply Ok
 intro hc
 have e1:c j=σ j:=Ok fun e=>hc (hd j e)
 have:=p j (fun e=>q (e.trans e1))
 omega
def QM (P:Program) (pf:FuncId->Bool) (W:Nat->Prop) (lim:Nat) (σ:PH) (md:Md) (R:List (Value×NA)) (H:NA) (w:World) (b:Frame) (K:List Item) (cs:List Frame) (a:Act):Prop:=
 ∃r∈R,XH P pf W lim σ md r.1 H r.2 w b K cs a
theorem QM.step {pf:FuncId->Bool} {md:Md} {R:List (Value×NA)} {b:Frame} {K c:List Item} {cs:List Frame} {a:Act} (h:step P (lone (b.atR a K) cs w)=.next (lone (b.atR a c) cs w)) (k:QM P pf W lim σ md R H w b c cs a):QM P pf W lim σ md R H w b K cs a:=by
 obtain ⟨r,hr,k⟩:=k
 exact ⟨r,hr,k.step h⟩
theorem QM.steps {pf:FuncId->Bool} {md:Md} {R g:List (Value×NA)} {b:Frame} {K f:List Item} {cs:List Frame} {a i:Act} {d:World} {e:PH} {H1:NA} (h:Steps P (lone (b.atR a K) cs w) (lone (b.atR i f) cs d)) (c:Stp W w d) (hle:PH.le σ e) (hd:∀j,e j≠σ j->H.length<=j) (l:H.length<=H1.length)
  (k:QM P pf W lim e md g H1 d b f cs i) (m:∀x∈g,x∈R):QM P pf W lim σ md R H w b K cs a:=by
 obtain ⟨r,hr,k⟩:=k
 exact ⟨r,m r hr,k.steps h c hle hd l⟩
def Cx (P:Program) (σ:PH) (md:Md) (af:AFunc) (b:Frame) (cs:List Frame):Prop:=
 b.kind=.normal/\match md with
 | .r i=>∃L c cs',b.roundOf=some L.blk/\σ i=some L/\cs=c::cs'
 | _=>b.roundOf=none/\∃fn,P.funcs[b.fn]? = some fn/\fn.results.toList.mapM (Mc P)=some af.results
theorem Cx.mono {σ τ:PH} (hle:PH.le σ τ) {md:Md} {af:AFunc} {b:Frame} {cs:List Frame} (h:Cx P σ md af b cs):Cx P τ md af b cs:=by
 refine ⟨h.1, ?_⟩
 have h2:=h.2
 cases md with
 | r i=>obtain ⟨L,c,cs',a,d,e⟩:=h2;exact ⟨L,c,cs',a,hle _ _ d,e⟩
 | _=>exact h2
theorem Inv.enterLoop (h:Inv (Prg.mk P (Env.pure E)) W lim σ H w) {x:LoopB} {lp:Loop} (hx:LoopRel (Prg.mk P (Env.pure E)) σ x lp) :
  ∃g,Inv (Prg.mk P (Env.pure E)) W lim g (H++[.dfr,.loop x]) ((w.alloc (.deferred (some []))).alloc (.loop lp))/\PH.le σ g/\g H.length=some ⟨w.heap.size,0,0⟩/\g (H.length+1)=some ⟨w.heap.size+1,0,0⟩/\∀j,g j≠σ j->H.length<=j:=by
 have c:∀{H:NA} {w:World} {σ:PH} (h:Inv (Prg.mk P (Env.pure E)) W lim σ H w) {b:Blk} {o:Obj},owned b=true->U1 (Prg.mk P (Env.pure E)) (σ.put H.length ⟨w.heap.size,0,0⟩) (w.alloc o) ⟨w.heap.size,0,0⟩ b->Inv (Prg.mk P (Env.pure E)) W lim (σ.put H.length ⟨w.heap.size,0,0⟩) (H++[b]) (w.alloc o):=by
  intro H w σ h b o ho m
  have hw:Inv (Prg.mk P (Env.pure E)) W lim σ H (w.alloc o):=h.world (by simp) fun b m=>by rw [Uc,Pn];rw [Ng (by omega)]
  obtain ⟨q,r,y,s,z,A,B⟩:=Tg (dest:=none) (b:=b) (H:=H) (show place none b H=(H.length,H++[b]) from rfl) (fun d e=>by cases e)
  refine hw.adopt q r s (h.dom _ (Nd _)) m ho (h.fresh _ (Nd _)) fun j bj Lj u k ha i e=>?_
  obtain ⟨v,h1,h2⟩:=h.blk j bj k ha
  rw [i] at h1;cases h1
  have:=h2.lt ha
  simp at e
  omega
 have n:=c h (b:=.dfr) (o:=.deferred (some [])) rfl (by show (w.alloc _).heap[_]? = _;simp [Uc])
 have f:PH.le σ (σ.put H.length ⟨w.heap.size,0,0⟩):=PH.le_put (h.dom _ (Nd _))
 have l:=n.dom (H.length+1) (by simp)
 have a:=PH.le_put (L:=⟨w.heap.size+1,0,0⟩) l
 have p:=c n (b:=.loop x) (o:=.loop lp) rfl (by
  refine ⟨lp,World.alloc_heap_new _ _, ?_⟩
  simp only [Ni,Nk,No,World.size_alloc] at a⊢
  exact (hx.mono f).mono a)
 simp only [Ni,Nk,No,World.size_alloc,Nq,O5,On] at p
 refine ⟨_,p,PH.le_trans f a, ?_,PH.put_same,fun j t=>?_⟩
 ·simp [PH.put]
 ·apply Ok
  intro hc
  refine t ?_
  simp only [PH.put]
  rw [Ng (by omega),Ng (by omega)]
theorem Nar (hE:EnvOk P E) (n:Nat) (hC:∀m,m<n->CallOkS (Prg.mk P (Env.pure E)) (Rl E m)):∀(m:Nat),m<=n->∀{md:Md} {ms:List Nat} {ds:List Deferred} {af:AFunc} {k:List AItem} {fr:Nat->Value} {σ:PH} {H:NA} {w:World} {R:List (Value×NA)} {K:List Item} {a:Act} (b:Frame) (cs:List Frame),
   OW E m af lim k fr H=some R->KRel P E.pure md ms k K->(md=.n->ms=[])->Nfv lim σ ms.reverse ds->Cx P σ md af b cs->(∀i,md=.r i->lim<=i)->State (Prg.mk P (Env.pure E)) ds W lim σ af.ntmps fr H a w->
   QM P E.pure W lim σ md R H w b K cs a:=by
 intro m
 induction m using Nat.strongRecOn with
 | ind m ih=>
 intro hm md ms ds af k fr σ H w R K a b cs hx hK hms hds hcx hri hs
 cases m with
 | zero=>simp [OW] at hx
 | succ m=>
 have ih':∀{k:List AItem} {K:List Item},OW E m af lim k fr H=some R->KRel P E.pure md ms k K->QM P E.pure W lim σ md R H w b K cs a:=fun hx hK=>ih m (by omega) (by omega) b cs hx hK hms hds hcx hri hs
 have finN:md=.n->∀{todo:List Item},step P (lone (b.atR a K) cs w)=.next (lone { b.atR a todo with mode:=.returning } cs w)->one ((result fr H af.results).map (·,H))=some R->QM P E.pure W lim σ md R H w b K cs a:=fun hmd todo hst h=>by
  subst hmd
  rw [hms rfl] at hds
  cases hds
  obtain ⟨hk,hro,fn,hfn,hrs⟩:=hcx
  obtain ⟨x,h',rfl⟩:=UW h
  simp only [Nb] at h'
  obtain ⟨v,h1,rfl⟩:=h'
  obtain ⟨v',h7,h8⟩:=Zj hs hrs h1
  exact ⟨_,Nl.2 rfl,_,v',w,σ,.one hst,⟨_,rfl,rfl,rfl,hs.fr.defers,hk,fn,hfn,h7⟩,h8,hs.inv,Stp.refl _ _,PH.le_refl _,fun j hj=>absurd rfl hj⟩
 have Vk:md=.m->marks k=marks k->∀{todo:List Item} {ks:List AItem},marks ks=ms.reverse->step P (lone (b.atR a K) cs w)=.next (lone { b.atR a todo with mode:=.returning } cs w)->
   (match shut lim (marks ks) H with | some H'=>one ((result fr H' af.results).map (·,H')) | none=>none)=some R->QM P E.pure W lim σ md R H w b K cs a:=fun hmd _ todo ks hmk hst h=>by
  subst hmd
  obtain ⟨hk,hro,fn,hfn,hrs⟩:=hcx
  split at h
  case h_2=>cases h
  rename_i H1 hsh
  rw [hmk] at hsh
  obtain ⟨w1,k1,k2,k3,k4⟩:=Ndl (b:=b) (a:=a) (todo:=todo) (cs:=cs) _ ds hds hs.inv hsh
  obtain ⟨x,h',rfl⟩:=UW h
  simp only [Nb] at h'
  obtain ⟨v,h1,rfl⟩:=h'
  have hs1:State (Prg.mk P (Env.pure E)) ds W lim σ af.ntmps fr H1 a w1:=⟨hs.fr,k2,by rw [k4];exact hs.lim⟩
  obtain ⟨v',h7,h8⟩:=Zj hs1 hrs h1
  have ea:{ a with defers:=ds }=a:=by rw [<-hs.fr.defers]
  rw [ea] at k1
  exact ⟨_,Nl.2 rfl,_,v',w1,σ,Steps.head hst k1,⟨_,rfl,rfl,rfl,rfl,hk,fn,hfn,h7⟩,h8,k2,k3,PH.le_refl _,fun j hj=>absurd rfl hj⟩
 have finR:∀{i:Nat} {j:Option ACode} {J:Option Code},md=.r i->(match j with | none=>J=none | some c=>∃C,J=some C/\TD P E.pure C=some c)->
   (∀{L c cs' v w'},b.roundOf=some L->b.kind=.normal->cs=c::cs'->(Instr.endRound L J).run P w=.ok v w'->step P (lone (b.atR a K) (c::cs') w)=.next (lone (c.finish v) cs' w'))->
   one (endRound i j H)=some R->QM P E.pure W lim σ md R H w b K cs a:=fun {i j J} hmd hj hst h=>by
  subst hmd
  obtain ⟨hk,L,c,cs',hro,hL,rfl⟩:=hcx
  obtain ⟨⟨v,H'⟩,h',rfl⟩:=UW h
  obtain ⟨w1,h1,h2,h3,h4⟩:=Nex hs.inv hL (hri i rfl) hj h'
  exact ⟨_,Nl.2 rfl,_,v,w1,σ,.one (hst hro hk rfl h1),⟨c,cs',rfl,rfl⟩,h2,h3,h4,PH.le_refl _,fun j hj=>absurd rfl hj⟩
 rw [OW.eq_def] at hx
 simp only at hx
 cases hK with
 | nilN=>exact finN rfl (stepR_end hcx.2.1) hx
 | nilM=>exact Vk rfl rfl (Na1 ms) (stepR_end hcx.2.1) hx
 | @nilR i=>
   simp only at hx
   split at hx
   case isFalse=>cases hx
   exact finR rfl (J:=none) rfl (fun {L c cs' v w'} h1 h2 h3 h4=>stepR_round_end h1 h2 h4) hx
 | inBlock t=>exact QM.step stepR_inBlock (ih' hx t)
 | inLoop h t=>exact QM.step stepR_inLoop (ih' hx (.code h (.inLoop h t)))
 | @begin i ms k K t=>
   simp only at hx
   split at hx
   case h_2=>cases hx
   rename_i x hb
   split at hx
   case isFalse=>cases hx
   rename_i hc
   obtain ⟨hk,L,c,cs',hro,hL,rfl⟩:=hcx
   obtain ⟨lp,h1,h2⟩:=hs.inv.loop hb hL
   have hlt:L.blk<w.heap.size:=(Array.getElem?_eq_some_iff.1 h1).1
   obtain ⟨i1,i2⟩:=hs.inv.putLoop (o:=.loop { lp with state:=.busy }) (b':=.loop { x with st:=1 }) hb rfl hL hc.2
    ⟨_,World.putObj_heap_same hlt,rfl,h2.pend,h2.size,h2.val,h2.params,h2.assign,h2.body⟩ (fun _=>rfl)
   have hst:lp.state=.ready:=by rw [h2.st,hc.1];rfl
   refine QM.steps (.one (stepR_beginRound hro (run_beginRound h1 hst))) i2 (PH.le_refl _) (fun j hj=>absurd rfl hj) (by simp) (ih m (by omega) (by omega) b _ hx t hms hds ⟨hk,L,c,cs',hro,hL,rfl⟩ hri ⟨hs.fr,i1,by have:=hs.lim;simpa using this⟩) (fun x hx=>hx)
 | @code md ms c C k K h t=>
   cases Nr4 h with
   | skip=>exact QM.step stepR_skip (ih' hx t)
   | @plain _ id ops l hl=>
     simp only at hx
     obtain ⟨LL,h1,h2⟩:=Ndy E l m af lim k fr H _ hx
     have hCm:=hC (m-1) (by omega)
     obtain ⟨e,a1,w1,hq,harr⟩:=Nh6 (ro:=b.roundOf) hCm (id:=id) hl hs h1 b K cs rfl trivial (room_wide _)
     obtain ⟨r,hr,rfl,σ1,q1,q2,q3,q4,q5,q6⟩:=hq
     obtain ⟨m1,R',g1,g2,g3⟩:=h2 r hr
     exact QM.steps (StepsIn.steps harr) q2 q3 q5 q6 (ih m1 (by omega) (by omega) b cs g2 t hms (hds.mono q3) (hcx.mono q3) hri q1) g3
   | @drawn _ id ops nn L hdr=>
     simp only at hx
     obtain ⟨m1,fr1,H1,h1,h2,h3⟩:=Ngx E L m af lim H.length k fr _ _ hx
     have hCm:=hC (m-1) (by omega)
     obtain ⟨e,a1,w1,hq,harr⟩:=Nh7 (ro:=b.roundOf) hCm.det hE.mixed (id:=id) hdr hs h2 b K cs rfl trivial (room_wide _)
     obtain ⟨rfl,σ1,q1,q2,q3,q5⟩:=hq
     have hlen:H.length<=H1.length:=by
      have key:∀(l:List AIns) (fr fr1:Nat->Value) (H0 H1:NA),lim<=H0.length->Y2 (det (Rl E (m-1))) af.ntmps lim (some H.length) l fr H0=some (fr1,H1)->H0.length<=H1.length:=by
       intro l
       induction l with
       | nil=>intro fr fr1 H0 H1 _ hx;simp [Y2] at hx;rw [hx.2];exact Nd _
       | cons i l ih=>
         intro fr fr1 H0 H1 hl hx
         obtain ⟨f2,H2,g1,g2⟩:=WV hx
         obtain ⟨g3,_⟩:=Nei hCm.grow.det g1 (fun b e=>by cases e;exact hs.lim) hl
         have:=ih _ _ _ _ (by omega) g2
         omega
      have:=key L fr fr1 _ H1 (by have:=hs.lim;simp;omega) h2
      simp at this
      omega
     exact QM.steps (StepsIn.steps harr) q2 q3 q5 hlen (ih m1 (by omega) (by omega) b cs h3 t hms (hds.mono q3) (hcx.mono q3) hri q1) (fun x hx=>hx)
   | seq hx' hy'=>exact QM.step stepR_seq (ih' hx (.code hx' (.code hy' t)))
   | @cond _ o x y x' y' hok hx' hy'=>
     have hev:=hs.fr.ev hok
     simp only at hx
     cases he:ev fr o<;>rw [he] at hx hev<;>(try (cases hx;done))
     rename_i t'
     have hb:=hev.bool_left
     cases t' with
     | true=>exact QM.step (stepR_cond hb) (ih' hx (.code hx' t))
     | false=>exact QM.step (stepR_cond hb) (ih' hx (.code hy' t))
   | block hx'=>exact QM.step stepR_block (ih' hx (.code hx' (.inBlock t)))
   | loop hx'=>exact QM.step stepR_loop (ih' hx (.code hx' (.inLoop hx' t)))
   | exit hmd=>
     simp only at hx
     split at hx
     case h_2=>cases hx
     rename_i k' hk'
     obtain ⟨K',h1,h2⟩:=t.exit hk'
     exact QM.step (stepR_exit h1) (ih' hx h2)
   | @exitR i id=>
     simp only at hx
     split at hx
     ·rename_i k' hk'
      obtain ⟨K',h1,h2⟩:=t.exit hk'
      exact QM.step (stepR_exit h1) (ih' hx h2)
     ·rename_i hk'
      rw [t.roundOf] at hx
      simp only at hx
      split at hx
      case isFalse=>cases hx
      exact finR rfl (j:=some (.exit id)) (J:=some (.exit id)) ⟨_,rfl,rfl⟩ (fun {L c cs' v w'} h1 h2 h3 h4=>stepR_round_exit h1 h2 (t.noExit hk') h4) hx
   | ret=>exact finN rfl (stepR_ret hcx.2.1) hx
   | retM=>exact Vk rfl rfl t.marks (stepR_ret hcx.2.1) hx
   | retR=>
     simp only at hx
     rw [t.roundOf] at hx
     simp only at hx
     split at hx
     case isFalse=>cases hx
     exact finR rfl (j:=some .retM) (J:=some .ret) ⟨_,rfl,rfl⟩ (fun {L c cs' v w'} h1 h2 h3 h4=>stepR_round_ret h1 h2 h4) hx
   | @rangeF f ps x y x' y' hok hx' hy'=>
     have hCm:=hC m (by omega)
     have hev:=hs.fr.ev hok
     simp only at hx
     split at hx
     case h_2=>cases hx
     rename_i g as hcl
     unfold NF at hcl
     split at hcl
     case h_2=>simp at hcl
     case h_3=>cases hcl
     rename_i g' fi ca hf
     simp only [Option.some.injEq,Prod.mk.injEq,Sum.inl.injEq] at hcl
     obtain ⟨rfl,rfl⟩:=hcl
     rw [hf] at hev
     obtain ⟨fi',ca',hf',hfi,hca⟩:=hev.func_left
     split at hx
     case h_2=>cases hx
     rename_i L2 hcall
     obtain ⟨hk,hro,fn0,hfn0,hrs0⟩:=hcx
     have hxl:LoopRel (Prg.mk P (Env.pure E)) σ ⟨0,none,fr,af.ntmps,ps.toList,x',y'⟩ { state:=.ready,pending:=none,fn:=b.fn,tmps:=a.tmps,params:=ps,assign:=x,body:=y,defers:=w.heap.size }:=
      ⟨rfl,rfl,hs.fr.size,hs.fr.val,rfl,hx',hy'⟩
     obtain ⟨σ1,i1,hle1,hl1,hl2,hch1⟩:=hs.inv.enterLoop hxl
     obtain ⟨fn,g1,g2,g3⟩:=hCm.fn _ _ _ _ _ _ hcall
     have hargs:OG σ1 (fi.toList++[.func (.yield (H.length+1)) #[] #[]]++ca.toList) (fi'.toList++[.func (.yield (w.heap.size+1)) #[] #[]]++ca'.toList):=
      ((hfi.mono hle1).append (OG.cons (.yld hl2) OG.nil)).append (hca.mono hle1)
     have hcalls:=hCm.calls _ _ _ _ _ _ hcall (by have:=hs.lim;simp;omega) W σ1 _ _ i1 hargs
     have hkc:∀v,a.eval (.const v)=v:=fun _=>rfl
     have hbn:fn.body≠none:=fun h=>by rw [h] at g2;cases g2
     have h3':¬(fn.name= "runtime.NumGoroutine"):=by simpa using g3
     have ea:(fi'.toList++[Value.func (.yield (w.heap.size+1)) #[] #[]]++ca'.toList).toArray=fi'++#[Value.func (.yield (w.heap.size+1)) #[] #[]]++ca':=by apply Array.ext';simp
     rw [ea] at hcalls
     have henter:=stepR_rangeFunc (P:=P) (b:=b) (a:=a) (k:=K) (cs:=cs) (w:=w) (g:=f) (ps:=ps) (assign:=x) (body:=y) (f:=g') (args:=fi'++#[Value.func (.yield (w.heap.size+1)) #[] #[]]++ca')
      (show (Instr.enterLoop b.fn a.tmps ps x y b.roundOf).run P w=.ok (w.heap.size+1,[{ target:=.collected w.heap.size,args:=#[] }])
       ((w.alloc (.deferred (some []))).alloc (.loop { state:=.ready,pending:=none,fn:=b.fn,tmps:=a.tmps,params:=ps,assign:=x,body:=y,defers:=w.heap.size })) by rw [hro];exact run_enterLoop_outer _ _ _ _ _)
      (show (resolve a.eval (rangeCall f (w.heap.size+1)) 0).run P _=.ok { target:=.fn (.func g') ca',args:=fi'++#[Value.func (.yield (w.heap.size+1)) #[] #[]] } _ by
       simp [resolve,Deferred.ofValue,hf',hkc];rfl)
      (show (invoke (.fn (.func g') ca') (fi'++#[Value.func (.yield (w.heap.size+1)) #[] #[]])).run P _=.ok (.enter g' _) _ by
       simp [invoke,callFunc,g1,h3',hbn];rfl)
     obtain ⟨e,w3,fr3,⟨⟨v2,H2⟩,hr2,v3,σ3,rfl,q1,q2,q3,q4,q5⟩,hcome,hfr3,hlv⟩:=hcalls (b.atR { a with defers:=[{ target:=.collected w.heap.size,args:=#[] }]++a.defers } (.inRangeFunc (w.heap.size+1)::K)::cs)
     obtain ⟨R',hx,hsub⟩:=UG hx _ hr2
     simp only at hx q2
     split at hx
     case h_2=>cases hx
     rename_i xx hb
     split at hx
     ·cases hx
     rename_i hst
     have hL3:σ3 (H.length+1)=some ⟨w.heap.size+1,0,0⟩:=q4 _ _ hl2
     obtain ⟨lp,h1,h2⟩:=q2.loop hb hL3
     have hnb:lp.state≠.busy:=fun e=>by
      rw [h2.st] at e
      unfold N7d at e
      split at e<;>first | (cases e;done) | skip
      rename_i h;exact hst h
     have hlimx:lim<=H.length+1:=by have:=hs.lim;omega
     obtain ⟨i3,s3⟩:=q2.putLoop (o:=.loop { lp with state:=.exhausted }) (b':=.dead) hb rfl hL3 hlimx trivial (fun h=>by simp [alive] at h)
     have hall:Steps P (lone (b.atR a (.code (.rangeFunc f ps x y)::K)) cs w) (lone (b.atR { a with defers:=[{ target:=.collected w.heap.size,args:=#[] }]++a.defers } ((lp.pending.map Item.code).toList++K)) cs (w3.putObj (w.heap.size+1) (.loop { lp with state:=.exhausted }))):=by
      refine Steps.head henter (Steps.trans hcome (Steps.head (step_leave_returned hlv) ?_))
      rw [finish_atR_inRangeFunc]
      exact .one (stepR_endRangeFunc (run_endLoop h1 hnb))
     have hst1:Stp W w ((w.alloc (.deferred (some []))).alloc (.loop { state:=.ready,pending:=none,fn:=b.fn,tmps:=a.tmps,params:=ps,assign:=x,body:=y,defers:=w.heap.size })):=
      (Stp.alloc hs.inv.fresh _).trans (Stp.alloc (fun k hk=>hs.inv.fresh k (by simp at hk;omega)) _)
     have hlen2:H.length+2<=H2.length:=by
      have:=(hCm.grow _ _ _ _ _ _ hcall (by have:=hs.lim;simp;omega) _ hr2).1
      simpa using this
     have hle3:PH.le σ σ3:=PH.le_trans hle1 q4
     have hpend:=h2.pend
     refine QM.steps hall (hst1.trans (q3.trans s3)) hle3 (fun j hj=>?_) (by simp;omega) (ih m (by omega) (by omega) (ms:=ms++[H.length]) (ds:={ target:=.collected w.heap.size,args:=#[] }::ds) b cs hx ?_ (fun h=>by cases h) ?_ ⟨hk,hro,fn0,hfn0,hrs0⟩ (fun i h=>by cases h) ⟨?_,i3,by have:=hs.lim;simp;omega⟩) hsub
     ·apply Ok
      intro hc
      have e1:σ1 j=σ j:=Ok fun e=>hc (hch1 j e)
      have:=q5 j (fun e=>hj (e.trans e1))
      simp at this
      omega
     ·have tm:=t.addMark H.length
      cases hp:xx.pend with
      | none=>rw [hp] at hpend;simp only at hpend;rw [hpend];simpa using tm
      | some c=>
        rw [hp] at hpend
        obtain ⟨C,hC1,hC2⟩:=hpend
        rw [hC1]
        exact .code (md:=.m) hC2 tm
     ·rw [List.reverse_append]
      exact ⟨⟨w.heap.size,0,0⟩,ds,hs.lim,q4 _ _ hl1,rfl,hds.mono hle3⟩
     ·exact ⟨hs.fr.size,by simp [hs.fr.defers],fun t=>(hs.fr.val t).mono hle3⟩
theorem Npm {as as':List Value} (h:OG σ as as') (fn:Func):FrRel [] σ fn.ntmps (NE as) { tmps:=as'.toArray++Array.replicate (fn.ntmps-as'.toArray.size) undef,defers:=[] }:=by
 refine ⟨by simp;omega,rfl,fun t=>?_⟩
 unfold NE
 rw [N2,Na]
 by_cases ht:t<as.length
 ·have a:t<as'.length:=by rw [<-h.1];exact ht
  rw [Array.getElem?_append_left (by simpa using a),Nf ht]
  simp only [List.getElem?_toArray,Nf a,Pa]
  exact h.2 t _ _ (Nf ht) (Nf a)
 ·have a:as'.toArray.size<=t:=by simp [<-h.1];omega
  rw [Nu (by omega),Array.getElem?_append_right a,Array.getElem?_replicate]
  have b:VRel σ undef undef:=.atom rfl
  split<;>exact b
theorem Xd {pf:FuncId->Bool} {g:FuncId} {af:AFunc} (ht:Vg P pf g=some af):∃fn body md c rs,P.funcs[g]? = some fn/\fn.body=some body/\trX P pf md body=some c/\fn.results.toList.mapM (Mc P)=some rs/\(fn.name == "runtime.NumGoroutine")=false/\
  ((md=.n/\af={ ntmps:=fn.ntmps,results:=rs,body:=c })\/(md=.m/\af={ ntmps:=fn.ntmps,results:=rs,body:=.seq c .retM })):=by
 unfold Vg at ht
 split at ht
 ·rename_i a ha
  cases ht
  unfold Nqy at ha
  obtain ⟨fn,hfn,ht⟩:=NV ha
  obtain ⟨body,hb,ht⟩:=NV ht
  obtain ⟨c,hc,ht⟩:=NV ht
  obtain ⟨rs,hrs,ht⟩:=NV ht
  split at ht
  ·cases ht
  ·rename_i hn
   cases ht
   exact ⟨fn,body,.n,c,rs,hfn,hb,hc,hrs,by simpa using hn,.inl ⟨rfl,rfl⟩⟩
 ·unfold Nqz at ht
  obtain ⟨fn,hfn,ht⟩:=NV ht
  obtain ⟨body,hb,ht⟩:=NV ht
  obtain ⟨c,hc,ht⟩:=NV ht
  obtain ⟨rs,hrs,ht⟩:=NV ht
  split at ht
  ·cases ht
  ·rename_i hn
   cases ht
   exact ⟨fn,body,.m,c,rs,hfn,hb,hc,hrs,by simpa using hn,.inr ⟨rfl,rfl⟩⟩
theorem Ne7 (v:EnvOk P E) (n:Nat) (hC:∀m,m<n->CallOkS (Prg.mk P (Env.pure E)) (Rl E m)) {g:FuncId} {af:AFunc} (ht:Vg P E.pure g=some af) {as as':List Value} {R:List (Value×NA)} (hx:OW E n af lim [.code af.body] (NE as) H=some R) (hl:lim<=H.length)
  (f:Inv (Prg.mk P (Env.pure E)) W lim σ H w) (ha:OG σ as as'):Calls P g as'.toArray w fun e w'=>∃r∈R,R8 (Prg.mk P (Env.pure E)) W lim σ H r.1 r.2 w e w':=by
 obtain ⟨fn,body,md,c,y,d,x,hc,j,hn,t⟩:=Xd ht
 intro cs
 let b:Frame:={ (default:Frame) with fn:=g,kind:=.normal,roundOf:=none }
 have a:Frame.enter P g as'.toArray .normal=b.atR { tmps:=as'.toArray++Array.replicate (fn.ntmps-as'.toArray.size) undef,defers:=[] } [.code body]:=by
  simp [Frame.enter,Frame.atR,d,x,b]
 have k:State (Prg.mk P (Env.pure E)) [] W lim σ fn.ntmps (NE as) H { tmps:=as'.toArray++Array.replicate (fn.ntmps-as'.toArray.size) undef,defers:=[] } w:=⟨Npm ha fn,f,hl⟩
 rcases t with ⟨rfl,rfl⟩ | ⟨rfl,rfl⟩
 ·obtain ⟨r,hr,m,v',w',u,h1,⟨fr,rfl,h2,l⟩,o,h5,p,q,s⟩:=Nar (W:=W) v n hC n (Nd _) (ms:=[]) b cs hx (.code hc .nilN) (fun _=>rfl) rfl ⟨rfl,rfl,fn,d,j⟩ (fun i h=>by cases h) k
  rw [<-a] at h1
  exact ⟨.returned v',w',fr,⟨r,hr,v',u,rfl,o,h5,p,q,s⟩,h1,h2,l⟩
 ·cases n with
  | zero=>simp [OW] at hx
  | succ n=>
  rw [OW.eq_def] at hx
  simp only at hx
  obtain ⟨r,hr,m,v',w',u,h1,⟨fr,rfl,h2,l⟩,o,h5,p,q,s⟩:=Nar (W:=W) v (n+1) hC n (by omega) (ms:=[]) b cs hx (.code hc .nilM) (fun _=>rfl) rfl ⟨rfl,rfl,fn,d,j⟩ (fun i h=>by cases h) k
  rw [<-a] at h1
  exact ⟨.returned v',w',fr,⟨r,hr,v',u,rfl,o,h5,p,q,s⟩,h1,h2,l⟩
theorem Zi:∀(ps:List Nat) (as as':List Value) (fr:Nat->Value) (a:Array Value) (N:Nat),as.length=ps.length->(ps.all (·<N))=true->N<=a.size->OG σ as as'->(∀t,VRel σ (fr t) (a.getD t undef))->
  N<=((ps.zip as').foldl (fun (tmps:Array Value) (x:Nat×Value)=>tmps.setIfInBounds x.1 x.2) a).size/\∀t,VRel σ (SK fr ps as t) (((ps.zip as').foldl (fun (tmps:Array Value) (x:Nat×Value)=>tmps.setIfInBounds x.1 x.2) a).getD t undef)
 | [],as,as',fr,a,N,h,_,hN,ha,hv=>by
   cases as with
   | nil=>exact ⟨by simpa using hN,by simpa [SK] using hv⟩
   | cons=>simp at h
 | p::ps,as,as',fr,a,N,h,hp,hN,ha,hv=>by
   cases as with
   | nil=>simp at h
   | cons x xs=>
     cases as' with
     | nil=>have:=ha.1;simp at this
     | cons y ys=>
       simp only [List.all_cons,Nx,Ob] at hp
       simp only [List.zip_cons_cons,Oi,SK]
       refine Zi ps xs ys _ _ N (by simpa using h) hp.2 (by simpa using hN) ha.tail fun t=>?_
       rw [N2]
       by_cases e:t=p
       ·subst e
        rw [Nh rfl,Array.getElem?_setIfInBounds_self_of_lt (by omega)]
        exact ha.head
       ·rw [Ng e,Pu (fun h=>e h.symm),<-N2]
        exact hv t
theorem Nkh (u:EnvOk P E) (n:Nat) (hC:∀m,m<n->CallOkS (Prg.mk P (Env.pure E)) (Rl E m)) {i:Nat} {x:LoopB} (v:NC H i=.loop x) (l:lim<=i) {as as':List Value} (f:as.length=x.params.length) (g:(x.params.all (·<x.N))=true) {R:List (Value×NA)}
  (hx:OW E n ⟨x.N,[],.skip⟩ lim [.code x.assign,.begin i,.code x.body,.round i] (SK x.fr x.params as) H=some R) (hl:lim<=H.length)
  (d:Inv (Prg.mk P (Env.pure E)) W lim σ H w) (ha:OG σ as as') {L:Loc} (hL:σ i=some L) :
  ∃r,w.heap[L.blk]? = some (.loop r)/\as'.toArray.size=r.params.size/\RoundIn Fence.wide 0 P L.blk r.fn (SL r as'.toArray) r.assign r.body w fun e w'=>∃x∈R,R8 (Prg.mk P (Env.pure E)) W lim σ H x.1 x.2 w e w':=by
 obtain ⟨r,h1,h2⟩:=d.loop v hL
 have p:as'.toArray.size=r.params.size:=by
  have e:=ha.1
  rw [<-Array.length_toList (xs:=r.params),h2.params,List.size_toArray];omega
 refine ⟨r,h1,p,trivial,fun c cs _=>?_⟩
 let b:Frame:={ (default:Frame) with fn:=r.fn,kind:=.normal,roundOf:=some L.blk }
 have k:Frame.round L.blk r.fn (SL r as'.toArray) r.assign r.body .normal=b.atR { tmps:=SL r as'.toArray,defers:=[] } [.code r.assign,.beginRound,.code r.body]:=by
  simp [Frame.round,Frame.atR,b]
 have o:SL r as'.toArray=(x.params.zip as').foldl (fun (tmps:Array Value) (x:Nat×Value)=>tmps.setIfInBounds x.1 x.2) r.tmps:=by
  unfold SL
  rw [<-h2.params,<-Array.foldl_toList]
  simp
 obtain ⟨s,t⟩:=Zi (σ:=σ) x.params as as' x.fr r.tmps x.N f g h2.size ha h2.val
 rw [<-o] at s t
 obtain ⟨C,q,m,v',w',D,k1,⟨F,cs',e1,rfl⟩,y,z,A,k7,B⟩:=Nar (W:=W) u n hC n (Nd _) (md:=.r i) (ms:=[]) (ds:=[]) (af:=⟨x.N,[],.skip⟩) (a:={ tmps:=SL r as'.toArray,defers:=[] }) b (c::cs) hx (.code (md:=.r i) h2.assign (.begin (.code (md:=.r i) h2.body .nilR))) (fun h=>by cases h) rfl
  ⟨rfl,L,c,cs,rfl,hL,rfl⟩ (fun j h=>by cases h;exact l) ⟨⟨s,rfl,t⟩,d,hl⟩
 cases e1
 rw [<-k] at k1
 exact ⟨.returned v',w',⟨C,q,v',D,rfl,y,z,A,k7,B⟩,comesIn_wide.2 k1⟩
theorem Nc0 (hE:EnvOk P E):∀n,CallOkS (Prg.mk P (Env.pure E)) (Rl E n):=by
 intro n
 induction n using Nat.strongRecOn with
 | ind n ih=>
 have hgrow:Tm (Rl E n):=Zv fun af lim k fr H L hk hx hl=>Nhr E n af lim _ _ _ _ (fun x hx b l e=>absurd e (hk x hx b l)) hx hl
 have inv:∀{mp lim g as H L},Rl E n mp lim (.inl g) as H=some L->
   (∃v,E.orc g as=some v/\L=[(v,H)]/\as.all atom=true/\flat 4 v=true)\/
   (∃r,E.eff g as H=some r/\L=[(r.1,Np0 H r.2)]/\mp=false/\XU lim H r.2.2=true)\/
   (∃af,E.tr g=some af/\((∃v,E.pure g=true/\L=[(v,H)]/\olds H.length 4 v=true/\∃L0,OW E n af H.length [.code af.body] (NE as) H=some L0/\∀r∈L0,r.1=v)\/(mp=false/\OW E n af lim [.code af.body] (NE as) H=some L))):=by
  intro mp lim g as H L h
  unfold Rl QO at h
  simp only at h
  split at h
  ·rename_i u hu
   split at h
   ·rename_i hf
    cases h
    simp only [Nx] at hf
    exact .inl ⟨u,hu,rfl,hf.1,hf.2⟩
   ·cases h
  split at h
  ·rename_i r hr
   split at h
   ·cases h
   ·rename_i hm
    cases h
    simp only [Bool.or_eq_true,Bool.not_eq_true',not_or,Bool.not_eq_false,Bool.not_eq_true] at hm
    exact .inr (.inl ⟨r,hr,rfl,hm⟩)
  ·split at h
   ·cases h
   ·rename_i af haf
    right;right
    refine ⟨af,haf, ?_⟩
    split at h
    ·rename_i hp
     split at h
     ·rename_i u H1 l h1
      split at h
      ·rename_i hall
       split at h
       ·rename_i hf
        cases h
        refine .inl ⟨u,hp,rfl,hf,_,h1,fun r hr=>?_⟩
        rcases Nn.1 hr with rfl | hr
        ·rfl
        ·exact (Nc4 _ _ (N6.1 hall r hr)).symm
       ·cases h
      ·cases h
     ·cases h
    ·split at h
     ·cases h
     ·rename_i hmp
      exact .inr ⟨by simpa using hmp,h⟩
 have trOk:∀{g af},E.tr g=some af->∃fn,P.funcs[g]? = some fn/\fn.body.isSome=true/\(fn.name == "runtime.NumGoroutine")=false:=by
  intro g af h
  obtain ⟨fn,body,md,c,rs,hfn,hb,hc,hrs,hn,_⟩:=Xd (hE.tr g af h)
  exact ⟨fn,hfn,by rw [hb];rfl,hn⟩
 have invR:∀{mp lim i as H L},Rl E n mp lim (.inr i) as H=some L->mp=false/\∃x,NC H i=.loop x/\lim<=i/\as.length=x.params.length/\(x.params.all (·<x.N))=true/\
   OW E n ⟨x.N,[],.skip⟩ lim [.code x.assign,.begin i,.code x.body,.round i] (SK x.fr x.params as) H=some L:=by
  intro mp lim i as H L h
  unfold Rl QO at h
  simp only at h
  split at h
  ·cases h
  rename_i hmp
  split at h
  ·rename_i x hb
   split at h
   ·rename_i hc
    exact ⟨by simpa using hmp,x,hb,hc.1,hc.2.1,hc.2.2,h⟩
   ·cases h
  ·cases h
 refine { pure:=?_,fn:=?_,calls:=?_,rounds:=?_,grow:=hgrow }
 ·intro mp lim g as H L h
  rcases inv h with ⟨v,e,_⟩ | ⟨r,e,_⟩ | ⟨af,e,_⟩
  ·exact hE.orcFn _ _ _ e
  ·exact hE.effFn _ _ _ _ e
  ·exact trOk e
 ·intro mp lim g as H L h hl W σ w as' hinv ha
  rcases inv h with ⟨v,e,rfl,hat,hfl⟩ | ⟨r,e,rfl,_,hu⟩ | ⟨af,e,⟨v,hp,rfl,hfl,L0,hx,hall⟩ | ⟨_,hx⟩⟩
  case inr.inl=>exact (hE.eff _ _ _ _ e lim hl hu W σ w as' hinv ha).mono fun en w' hp=>⟨_,Nl.2 rfl,hp⟩
  ·have heq:as'=as:=by
    apply Pe ha.1.symm
    intro i h1 h2
    exact (ha.2 i _ _ (Nf h2) (Nf h1)).eq_of_atom (N6.1 hat _ (by simp))
   subst heq
   refine (hE.orc _ _ _ e w).mono fun en w' hp=>?_
   obtain ⟨rfl,hb⟩:=hp
   obtain ⟨hb,hdr⟩:=hb
   refine ⟨_,Nl.2 rfl,v,σ,rfl, ?_,hinv.world hb.size (fun k hk=>hb.block k hk),⟨hb.os,hb.tape,⟨hb.output,hdr⟩,hb.size,fun k hk=>hb.block k ?_⟩,PH.le_refl _,fun j hj=>absurd rfl hj⟩
   ·exact hE.orcFlat _ _ _ e σ
   ·rcases Ou k w.heap.size with h | h
    ·exact h
    ·exact absurd (hinv.fresh k h) hk
  ·have hinv':Inv (Prg.mk P (Env.pure E)) (fun k=>w.heap.size<=k) H.length σ H w:=⟨hinv.blk,hinv.inj,fun i b L hb ho hli hL=>by
    have:=(List.getElem?_eq_some_iff.1 hb).1
    omega,fun b hb=>hb,hinv.dom⟩
   refine (Ne7 hE n ih (hE.tr _ _ e) hx (Nd _) hinv' ha).mono fun en w' hp=>?_
   obtain ⟨r,hr,v',σ',rfl,h1,h2,h3,h4,h5⟩:=hp
   rw [hall r hr] at h1
   have hsm:∀k,k<w.heap.size->w'.heap[k]? = w.heap[k]?:=fun k hk=>h3.block k (by omega)
   refine ⟨_,Nl.2 rfl,v',σ,rfl,h1.olds (fun i L hi hL=>by rw [<-hL];exact (Ok fun e=>by have:=h5 i (Ne.symm e);omega:σ i=σ' i)) 4 hfl,hinv.world h3.size hsm,⟨h3.os,h3.tape,h3.output,h3.size,fun k hk=>hsm k ?_⟩,PH.le_refl _,fun j hj=>absurd rfl hj⟩
   rcases Ou k w.heap.size with h | h
   ·exact h
   ·exact absurd (hinv.fresh k h) hk
  ·exact Ne7 hE n ih (hE.tr _ _ e) hx hl hinv ha
 ·intro mp lim i as H L h hl W σ w as' L0 hinv ha hL
  obtain ⟨_,x,hb,h1,h2,h3,h4⟩:=invR h
  exact Nkh hE n ih hb h1 h2 h3 h4 hl hinv ha hL
 ·intro lim g as H L h r hr
  cases g with
  | inr i=>obtain ⟨e,_⟩:=invR h;cases e
  | inl g=>
  rcases inv h with ⟨v,_,e,_⟩ | ⟨_,_,_,e,_⟩ | ⟨af,_,⟨v,_,e,_⟩ | ⟨e,_⟩⟩
  ·subst e;rw [Nl] at hr;subst hr;rfl
  ·cases e
  ·subst e;rw [Nl] at hr;subst hr;rfl
  ·cases e
theorem Inv.nil (w:World):Inv (Prg.mk P (Env.pure E)) (fun k=>w.heap.size<=k) 0 (fun _=>none) [] w:=
 ⟨fun i b a=>by simp at a,fun i j bi bj Li Lj a=>by simp at a,fun i b L a=>by simp at a,fun b a=>a,fun _ _=>rfl⟩
end
end Go.AM


namespace Go.AM
universe u
namespace Sym
abbrev t (n:Nat):Operand:=.tmp n
abbrev k (v:Value):Operand:=.const v
abbrev i (d:Nat) (o:AOp):AIns:=⟨some d,none,o,none,[]⟩
abbrev zT (n:Int):Operand:=k (.int .i64 n)
abbrev mT (a b:Nat):AIns:=i a (.mov (t b))
abbrev lT (a b:Nat):AIns:=i a (.load1 (t b))
abbrev fT (a n b:Nat):AIns:=i a (.fieldAddr n (t b))
abbrev xT (a e b c:Nat):AIns:=i a (.idxAddrS e (t b) (t c))
abbrev St (n a b:Nat):AIns:=⟨none,none,.store n (t a) (t b),none,[]⟩
abbrev Bt (d:Nat) (o:BinOp) (a b:Nat):AIns:=i d (.bin o (t a) (t b))
abbrev Bc (d:Nat) (o:BinOp) (a:Nat) (c:Int):AIns:=i d (.bin o (t a) (zT c))
abbrev Ce (a b:Nat):ACode:=.cond (t a) .skip (.exit b)
abbrev Nt (d a:Nat):AIns:=i d (.lenSlice (t a))
abbrev Gt (d n a:Nat):AIns:=i d (.loadN n (t a))
abbrev Et (d n a:Nat):AIns:=i d (.extract n (t a))
abbrev Ct (d f:Nat) (l:List Operand):AIns:=i d (.call .any (.func f) l)
abbrev Yp (d g:Nat) (o:AOp):AIns:=⟨some d,some (g,true),o,none,[]⟩
abbrev Yq (d g:Nat) (o:AOp):AIns:=⟨some d,some (g,false),o,none,[]⟩
abbrev Pl (d g a:Nat):AIns:=Yp d g (.load1 (t a))
abbrev Ql (d g a:Nat):AIns:=Yq d g (.load1 (t a))
abbrev Pm (d g a:Nat):AIns:=Yp d g (.mov (t a))
abbrev Qm (d g a:Nat):AIns:=Yq d g (.mov (t a))
abbrev Pf (d g n a:Nat):AIns:=Yp d g (.fieldAddr n (t a))
abbrev Qf (d g n a:Nat):AIns:=Yq d g (.fieldAddr n (t a))
abbrev Px (d g e a b:Nat):AIns:=Yp d g (.idxAddrS e (t a) (t b))
abbrev Qx (d g e a b:Nat):AIns:=Yq d g (.idxAddrS e (t a) (t b))
abbrev Pb (d g:Nat) (o:BinOp) (a b:Nat):AIns:=Yp d g (.bin o (t a) (t b))
abbrev Qb (d g:Nat) (o:BinOp) (a b:Nat):AIns:=Yq d g (.bin o (t a) (t b))
abbrev Zm (d:Nat) (c:Int):AIns:=i d (.mov (zT c))
abbrev At (d a b:Nat):AIns:=i d (.pick (t a) (t b) (k (.bool false)))
abbrev Ot (d a b:Nat):AIns:=i d (.pick (t a) (k (.bool true)) (t b))
abbrev Ut (d a:Nat):AIns:=i d (.un .not (t a))
abbrev Kt (d:Nat) (o:AOp) (m:List Nat):AIns:=⟨some d,none,o,none,m⟩
abbrev Wt (d:Nat) (o:AOp) (n:Nat):AIns:=⟨some d,none,o,some n,[]⟩
abbrev Oz (l:List AIns) (c:ACode):ACode:=.seq (.ops l) c
abbrev Ds (n:Nat) (l:List AIns) (c:ACode):ACode:=.seq (.drawn n l) c
abbrev Bl (n:Nat) (c:ACode):ACode:=.block n (.loop c)
abbrev Vi (n:Int):Value:=.int .i64 n
abbrev Vp (b:Nat):Value:=.pointer (some ⟨b,0,none⟩)
abbrev Sa (b:Nat):Option Addr:=some ⟨b,0,none⟩
abbrev Vz:Value:=.slice none 0 0
abbrev Vc (c:List Value):Blk:=.cells false c
end Sym
structure Bx {α:Sort u} (a:α):Type where
def Nai (dt:Bool) (L:List (Value×NA)) (R:Value->NA->Prop):Prop:=(dt=true->∃x,L=[x])/\∀r∈L,R r.1 r.2
theorem Nai.mono {dt:Bool} {L:List (Value×NA)} {R R':Value->NA->Prop} (h:Nai dt L R) (hr:∀v H,R v H->R' v H):Nai dt L R':=⟨h.1,fun r a=>hr _ _ (h.2 r a)⟩
theorem U0 {dt:Bool} {v:Value} {H:NA} {R:Value->NA->Prop}:Nai dt [(v,H)] R=R v H:=propext ⟨fun h=>h.2 (v,H) (by simp),fun h=>⟨fun _=>⟨_,rfl⟩,fun r hr=>by rw [Nl] at hr;subst hr;exact h⟩⟩
theorem Ui {dt:Bool} {r:Value×NA} {R:Value->NA->Prop}:Nai dt [r] R=R r.1 r.2:=U0
def QC (E:Env) (af:AFunc) (lim:Nat) (k:List AItem) (fr:Nat->Value) (H:NA) (R:Value->NA->Prop) (_:Bx k:=⟨⟩) (_:Bx R:=⟨⟩):Prop:=
 ∃n L,OW E n af lim k fr H=some L/\Nai E.dt L R
def VV (E:Env) (mp:Bool) (lim:Nat) (t:FuncId ⊕ Nat) (as:List Value) (H:NA) (R:Value->NA->Prop) (_:Bx R:=⟨⟩):Prop:=
 ∃n L,Rl E n mp lim t as H=some L/\Nai E.dt L R
def NP (E:Env) (mp:Bool) (lim:Nat) (g:FuncId) (as:List Value) (H:NA) (R:Value->NA->Prop) (_:Bx R:=⟨⟩):Prop:=
 ∃n L,Rl E n mp lim (.inl g) as H=some L/\Nai E.dt L R
def Ws (E:Env) (mp:Bool) (lim:Nat) (i:Nat) (as:List Value) (H:NA) (R:Value->NA->Prop) (_:Bx R:=⟨⟩):Prop:=
 ∃n L,Rl E n mp lim (.inr i) as H=some L/\Nai E.dt L R
def dT (E:Env):Env:={ E with dt:=true }
class DT (E:Env) (E':outParam Env):Prop where
 eq:dT E=E'
def Ru (r:Option (Value×NA)) (f:Value->NA->Prop) (_:Bx f:=⟨⟩):Prop:=match r with | some (v,H')=>f v H' | none=>False
def nxK (dt:Bool) (r:Option (List (Value×NA))) (f:Value->NA->Prop) (_:Bx f:=⟨⟩):Prop:=match r with | some L=>Nai dt L f | none=>False
def Ne2 (v:Value) (p q:Prop) (_:Bx p:=⟨⟩) (_:Bx q:=⟨⟩):Prop:=match v with | .bool true=>p | .bool false=>q | _=>False
def T9 (v:Value) (b:Bool) (p q:Prop) (_:Bx p:=⟨⟩) (_:Bx q:=⟨⟩):Prop:=match v with | .bool c=>if c=b then p else q | _=>q
theorem Ncd {E:Env} {run:AFunc->Nat->List AItem->(Nat->Value)->NA->Option (List (Value×NA))}:QO (dT E) run=QO E run:=rfl
theorem Nrp (E:Env):∀n,OW (dT E) n=OW E n
 | 0=>by funext af lim k fr H;simp [OW]
 | n+1=>by
   have ih:=Nrp E n
   funext af lim k fr H
   rw [OW.eq_def,OW.eq_def E]
   simp only [ih,Ncd]
theorem Nah (E:Env) (n:Nat):Rl (dT E) n=Rl E n:=by unfold Rl;rw [Nrp,Ncd]
section
variable {E:Env} {af:AFunc} {lim:Nat} {K:List AItem} {fr:Nat->Value} {H:NA} {R:Value->NA->Prop}
theorem NP.weak {E':Env} [h:DT E E'] {mp:Bool} {g:FuncId} {as:List Value} (hc:NP E' mp lim g as H R):NP E mp lim g as H R:=by
 obtain ⟨n,L,h1,h2⟩:=hc
 obtain rfl:=h.eq
 rw [Nah] at h1
 exact ⟨n,L,h1,fun _=>h2.1 rfl,h2.2⟩
theorem QC.succ {k k1:List AItem} {fr fr1:Nat->Value} {H H1:NA} (h:∀n,OW E (n+1) af lim k fr H=OW E n af lim k1 fr1 H1):QC E af lim k fr H R=QC E af lim k1 fr1 H1 R:=by
 apply propext
 constructor
 ·rintro ⟨n,L,hx,hr⟩
  cases n with
  | zero=>simp [OW] at hx
  | succ n=>rw [h] at hx;exact ⟨n,L,hx,hr⟩
 ·rintro ⟨n,L,hx,hr⟩
  exact ⟨n+1,L,by rw [h];exact hx,hr⟩
theorem Su {k:List AItem} {r:Option (Value×NA)} (h:∀n,OW E (n+1) af lim k fr H=one r):QC E af lim k fr H R=Ru r R:=by
 apply propext
 constructor
 ·rintro ⟨n,L,hx,hr⟩
  cases n with
  | zero=>simp [OW] at hx
  | succ n=>
    rw [h] at hx
    obtain ⟨x,rfl,rfl⟩:=UW hx
    rw [Ui] at hr
    exact hr
 ·intro hk
  cases hx:r with
  | none=>rw [hx] at hk;exact hk.elim
  | some p=>rw [hx] at hk;exact ⟨1,[p],by rw [h,hx];rfl,by rw [Ui];exact hk⟩
theorem Nrr {k:List AItem} (h:∀n,OW E (n+1) af lim k fr H=one ((result fr H af.results).map (·,H))):QC E af lim k fr H R=Ru ((result fr H af.results).map (·,H)) R:=Su h
theorem N33 {a b}:QC E af lim (.code (.seq a b)::K) fr H R=QC E af lim (.code a::.code b::K) fr H R:=QC.succ fun n=>by rw [OW.eq_def]
theorem N1e:QC E af lim (.code .skip::K) fr H R=QC E af lim K fr H R:=QC.succ fun n=>by rw [OW.eq_def]
theorem N1g {l}:QC E af lim (.code (.ops l)::K) fr H R=QC E af lim (.ops none l::K) fr H R:=QC.succ fun n=>by rw [OW.eq_def]
theorem Nvt {m l}:QC E af lim (.code (.drawn m l)::K) fr H R=QC E af lim (.ops (some H.length) l::K) fr (H++List.replicate m .dead) R:=QC.succ fun n=>by rw [OW.eq_def]
theorem N34:QC E af lim (.code .ret::K) fr H R=Ru ((result fr H af.results).map (·,H)) R:=Nrr fun n=>by rw [OW.eq_def]
theorem N35:QC E af lim [] fr H R=Ru ((result fr H af.results).map (·,H)) R:=Nrr fun n=>by rw [OW.eq_def]
theorem Nvw {id b}:QC E af lim (.code (.block id b)::K) fr H R=QC E af lim (.code b::.inBlock id::K) fr H R:=QC.succ fun n=>by rw [OW.eq_def]
theorem Nnb {id}:QC E af lim (.inBlock id::K) fr H R=QC E af lim K fr H R:=QC.succ fun n=>by rw [OW.eq_def]
theorem Nna {b}:QC E af lim (.code (.loop b)::K) fr H R=QC E af lim (.code b::.inLoop b::K) fr H R:=QC.succ fun n=>by rw [OW.eq_def]
theorem XI {b}:QC E af lim (.inLoop b::K) fr H R=QC E af lim (.code b::.inLoop b::K) fr H R:=QC.succ fun n=>by rw [OW.eq_def]
theorem Nm9 {b}:QC E af lim (.ops b []::K) fr H R=QC E af lim K fr H R:=QC.succ fun n=>by rw [OW.eq_def]
theorem Nfs {id K'} (h:Rs id K=some K'):QC E af lim (.code (.exit id)::K) fr H R=QC E af lim K' fr H R:=QC.succ fun n=>by rw [OW.eq_def];simp only [h]
theorem N1h {c a b}:QC E af lim (.code (.cond c a b)::K) fr H R=Ne2 (ev fr c) (QC E af lim (.code a::K) fr H R) (QC E af lim (.code b::K) fr H R):=by
 cases hc:ev fr c with
 | bool t=>cases t<;>exact QC.succ fun n=>by rw [OW.eq_def];simp only [hc]
 | _=>
   apply propext
   constructor
   ·rintro ⟨n,L,hx,hr⟩
    cases n with
    | zero=>simp [OW] at hx
    | succ n=>rw [OW.eq_def] at hx;simp only [hc] at hx;cases hx
   ·intro h;exact h.elim
theorem QC.det {k:List AItem} {n m:Nat} {r r':List (Value×NA)} (h:OW E n af lim k fr H=some r) (h':OW E m af lim k fr H=some r'):r=r':=by
 have h1:=V9 E (P8 n m) h
 have h2:=V9 E (Pi n m) h'
 rw [h1] at h2;exact Option.some.inj h2
def Na8:AOp->Bool
 | .call ..=>true
 | _=>false
def dOk (N:Nat):Option Nat->Bool
 | none=>true
 | some d=>decide (d<N)
def Nsq (d:Option Nat) (fr:Nat->Value) (v:Value):Nat->Value:=match d with | none=>fr | some d=>upd fr d v
def gK (N:Nat) (fr:Nat->Value) (g:Option (Nat×Bool)) (p q:Prop) (_:Bx p:=⟨⟩) (_:Bx q:=⟨⟩):Prop:=match Rx N fr g with | none=>False | some true=>p | some false=>q
def oK (E:Env) (lim:Nat) (base:Option Nat) (dest:Option Nat) (mask:List Nat) (o:AOp) (fr:Nat->Value) (H:NA) (Q:Value->NA->Prop) (_:Bx Q:=⟨⟩):Prop:=
 match base with
 | none=>∃n L,stepX (Rl E n) lim ⟨none,none,o,dest,mask⟩ (ev fr) H=some L/\Nai E.dt L Q
 | some b=>∃n v H',QZ (det (Rl E n)) lim (dest.map (b+·)) o (ev fr) (NU b mask H)=some (v,H')/\Q v (NS b mask H H')
theorem Mv {N:Nat} {d:Option Nat} (h:dOk N d=true) (v:Value):Ye N fr d v=some (Nsq d fr v):=by
 cases d with
 | none=>rfl
 | some d=>simp [dOk] at h;simp [Ye,Nsq,h]
theorem N36 {L:List ((Nat->Value)×NA)} {k:List AItem} (h:∀r∈L,QC E af lim k r.1 r.2 R):∃N,∀r∈L,∃s,OW E N af lim k r.1 r.2=some s/\Nai E.dt s R:=by
 induction L with
 | nil=>exact ⟨0,fun r hr=>by cases hr⟩
 | cons x L ih=>
   obtain ⟨N,c⟩:=ih fun r hr=>h r (by simp [hr])
   obtain ⟨n,s,h1,h2⟩:=h x (by simp)
   refine ⟨max N n,fun r hr=>?_⟩
   rcases Nn.1 hr with rfl | hr
   ·exact ⟨s,V9 E (Pi N n) h1,h2⟩
   ·obtain ⟨d,a,b⟩:=c r hr
    exact ⟨d,V9 E (P8 N n) a,b⟩
theorem YX {α β:Type} {f:α->Option (List β)} {l:List α} {r:List β} (h:Tp f l=some r) (d:∀x∈l,∀s,f x=some s->s≠[]) {y:β} (hr:r=[y]):∃x,l=[x]:=by
 cases l with
 | nil=>simp [Tp] at h;rw [<-h] at hr;cases hr
 | cons a l=>
   cases l with
   | nil=>exact ⟨a,rfl⟩
   | cons b l=>
     simp only [Tp] at h
     split at h
     ·rename_i s t hs ht
      split at ht
      ·rename_i e i c g
       cases ht
       cases h
       have h1:=d a (by simp) s hs
       have h2:=d b (by simp) e c
       cases s with
       | nil=>exact absurd rfl h1
       | cons _ s=>
         cases e with
         | nil=>exact absurd rfl h2
         | cons _ _=>simp at hr
      ·cases ht
     ·cases h
theorem Nvu {x:AIns} {l:List AIns}:QC E af lim (.ops none (x::l)::K) fr H R=∃n L,ZG (Rl E n) af.ntmps lim x fr H=some L/\(E.dt=true->∃y,L=[y])/\∀r∈L,QC E af lim (.ops none l::K) r.1 r.2 R:=by
 apply propext
 constructor
 ·rintro ⟨n,L,hx,hr⟩
  cases n with
  | zero=>simp [OW] at hx
  | succ n=>
    rw [OW.eq_def] at hx
    simp only at hx
    split at hx
    ·rename_i L0 h1
     refine ⟨n,L0,h1,fun hd=>?_,fun r a=>?_⟩
     ·obtain ⟨y,g⟩:=hr.1 hd
      exact YX hx (fun x _ s hs=>YY E _ _ _ _ _ _ _ hs) g
     ·obtain ⟨s,hs,d⟩:=UG hx r a
      refine ⟨n,s,hs,fun hd=>?_,fun q i=>hr.2 q (d q i)⟩
      obtain ⟨y,g⟩:=hr.1 hd
      obtain ⟨z,k⟩:=YX hx (fun x _ s hs=>YY E _ _ _ _ _ _ _ hs) g
      subst k
      rw [Nl] at a
      subst a
      simp only [Tp,hs,Option.some.injEq,Nc] at hx
      exact ⟨y,hx.trans g⟩
    ·cases hx
 ·rintro ⟨n,L0,h1,hd,h2⟩
  obtain ⟨N,h⟩:=N36 h2
  have e:ZG (QO E (OW E (max n N))) af.ntmps lim x fr H=some L0:=Na9 (Uy E (P8 n N)) h1
  obtain ⟨L,hL⟩:=XE (f:=fun r:(Nat->Value)×NA=>OW E (max n N) af lim (.ops none l::K) r.1 r.2) (l:=L0) fun r hr=>by
   obtain ⟨s,hs,_⟩:=h r hr
   exact ⟨s,V9 E (Pi n N) hs⟩
  refine ⟨max n N+1,L,by rw [OW.eq_def];simp only [e,hL],fun c=>?_,fun q i=>?_⟩
  ·obtain ⟨y,rfl⟩:=hd c
   obtain ⟨s,hs,ho⟩:=h y (by simp)
   have b:=V9 E (Pi n N) hs
   simp only [Tp,b,Option.some.injEq,Nc] at hL
   obtain ⟨z,k⟩:=ho.1 c
   exact ⟨z,by rw [<-hL,k]⟩
  ·obtain ⟨r,hr,s,hs,j⟩:=UH hL q i
   obtain ⟨m,b,ho⟩:=h r hr
   have:=QC.det hs b
   subst this
   exact ho.2 q j
theorem Nvv {b:Nat} {x:AIns} {l:List AIns}:QC E af lim (.ops (some b) (x::l)::K) fr H R=∃n,∃fr' H',Te (det (Rl E n)) af.ntmps lim (some b) x fr H=some (fr',H')/\QC E af lim (.ops (some b) l::K) fr' H' R:=by
 apply propext
 constructor
 ·rintro ⟨n,L,hx,hr⟩
  cases n with
  | zero=>simp [OW] at hx
  | succ n=>
    rw [OW.eq_def] at hx
    simp only at hx
    split at hx
    ·rename_i fr' H1 h1
     exact ⟨n,fr',H1,h1,n,L,hx,hr⟩
    ·cases hx
 ·rintro ⟨n,fr',H1,h1,m,L,hx,hr⟩
  refine ⟨max n m+1,L, ?_,hr⟩
  rw [OW.eq_def]
  simp only
  have e:Te (det (QO E (OW E (max n m)))) af.ntmps lim (some b) x fr H=some (fr',H1):=ZH (Uy E (P8 n m)).det h1
  rw [e]
  exact V9 E (Pi n m) hx
theorem N46 {base d g o dest mask l} (hd:dOk af.ntmps d=true):QC E af lim (.ops base (⟨d,g,o,dest,mask⟩::l)::K) fr H R =
  gK af.ntmps fr g (oK E lim base dest mask o fr H fun v H'=>QC E af lim (.ops base l::K) (Nsq d fr v) H' R) (QC E af lim (.ops base l::K) (Nsq d fr undef) H R):=by
 cases base with
 | none=>
   rw [Nvu]
   unfold gK ZG
   simp only
   cases hw:Rx af.ntmps fr g with
   | none=>simp
   | some t=>
     cases t with
     | false=>
       simp only [Mv hd,Nr,Option.some.injEq]
       apply propext
       constructor
       ·rintro ⟨n,L,rfl,_,h⟩
        exact h _ (Nl.2 rfl)
       ·intro h
        exact ⟨0,_,rfl,fun _=>⟨_,rfl⟩,fun r hr=>by rw [Nl] at hr;subst hr;exact h⟩
     | true=>
       simp only [oK]
       have i:∀n,stepX (Rl E n) lim ⟨d,g,o,dest,mask⟩ (ev fr) H=stepX (Rl E n) lim ⟨none,none,o,dest,mask⟩ (ev fr) H:=fun n=>rfl
       have hm:∀L:List (Value×NA),Yl (fun r:Value×NA=>(Ye af.ntmps fr d r.1).map (·,r.2)) L=some (L.map fun r=>(Nsq d fr r.1,r.2)):=fun L=>by
        induction L with
        | nil=>rfl
        | cons x L ih=>rw [Yl,ih,Mv hd];rfl
       simp only [i]
       apply propext
       constructor
       ·rintro ⟨n,L,h1,c,h2⟩
        split at h1
        ·rename_i L0 h5
         rw [hm] at h1
         cases h1
         refine ⟨n,L0,h5,fun he=>?_,fun r hr=>h2 _ (List.mem_map.2 ⟨r,hr,rfl⟩)⟩
         obtain ⟨y,j⟩:=c he
         cases L0 with
         | nil=>cases j
         | cons a L0=>
           cases L0 with
           | nil=>exact ⟨a,rfl⟩
           | cons b L0=>simp at j
        ·cases h1
       ·rintro ⟨n,L0,h1,c,h2⟩
        refine ⟨n,L0.map fun r=>(Nsq d fr r.1,r.2),by rw [h1];exact hm L0,fun he=>?_,fun r hr=>?_⟩
        ·obtain ⟨y,rfl⟩:=c he
         exact ⟨_,rfl⟩
        ·obtain ⟨q,s,rfl⟩:=List.mem_map.1 hr
         exact h2 q s
 | some b=>
   rw [Nvv]
   unfold gK Te Sm
   simp only
   cases hw:Rx af.ntmps fr g with
   | none=>simp
   | some t=>
     cases t with
     | false=>
       simp only [Nb,Prod.mk.injEq,Mv hd]
       apply propext
       constructor
       ·rintro ⟨n,fr',H',⟨f,h1,h2,m⟩,e⟩
        cases h1;subst h2 m;exact e
       ·intro h
        exact ⟨0,_,_,⟨_,rfl,rfl,rfl⟩,h⟩
     | true=>
       simp only [oK]
       apply propext
       constructor
       ·rintro ⟨n,fr',H',h1,e⟩
        split at h1
        ·rename_i v H1 h5
         split at h5
         ·rename_i v' k p
          cases h5
          rw [Mv hd] at h1
          simp only [Nr,Option.some.injEq,Prod.mk.injEq] at h1
          obtain ⟨rfl,rfl⟩:=h1
          exact ⟨n,v,k,p,e⟩
         ·cases h5
        ·cases h1
       ·rintro ⟨n,v,H',h1,e⟩
        refine ⟨n,_,_, ?_,e⟩
        rw [h1]
        simp only [Mv hd,Nr]
theorem N3g {N:Nat} {p q:Prop}:gK N fr none p q=p:=rfl
theorem N3f {N g:Nat} {b:Bool} {p q:Prop} (h:g<N):gK N fr (some (g,b)) p q=T9 (fr g) b p q:=by
 unfold gK Rx T9
 simp only [h,if_true]
 cases fr g<;>simp
 rename_i c
 cases c<;>cases b<;>simp
variable {base dest:Option Nat} {mask:List Nat} {o:AOp} {Q:Value->NA->Prop}
theorem Nsc {C:Tt} {ρ:Operand->Value} (h:Na8 o=false):QZ C lim dest o ρ H=NJ lim dest o ρ H:=by
 cases o<;>first | rfl | (simp [Na8] at h)
theorem Nwo {C:SI} {ρ:Operand->Value} (h:Na8 o=false):stepX C lim ⟨none,none,o,none,mask⟩ ρ H=(NJ lim none o ρ H).map fun r=>[r]:=by
 unfold stepX
 cases o<;>first | rfl | (simp [Na8] at h)
theorem OX (h:Na8 o=false):oK E lim none none mask o fr H Q=Ru (NJ lim none o (ev fr) H) Q:=by
 unfold oK Ru
 simp only [Nwo h]
 cases NJ lim none o (ev fr) H with
 | none=>simp
 | some p=>exact propext ⟨by rintro ⟨_,_,h,q⟩;cases h;rw [Ui] at q;exact q,fun q=>⟨0,_,rfl,by rw [Ui];exact q⟩⟩
theorem OO {b:Nat} (h:Na8 o=false):oK E lim (some b) dest mask o fr H Q=Ru (NJ lim (dest.map (b+·)) o (ev fr) (NU b mask H)) fun v H'=>Q v (NS b mask H H'):=by
 unfold oK Ru
 simp only [Nsc h]
 cases NJ lim (dest.map (b+·)) o (ev fr) (NU b mask H) with
 | none=>simp
 | some p=>exact propext ⟨by rintro ⟨_,_,_,h,q⟩;cases h;exact q,fun q=>⟨0,_,_,rfl,q⟩⟩
theorem Nxt {x:Operand}:oK E lim none (some 1) mask (.mov x) fr H Q=Ru (Uh (ev fr x) H) Q:=by
 unfold oK Ru stepX Ndd
 simp only
 cases Uh (ev fr x) H with
 | none=>simp
 | some p=>exact propext ⟨by rintro ⟨_,_,h,q⟩;cases h;rw [Ui] at q;exact q,fun q=>⟨0,_,rfl,by rw [Ui];exact q⟩⟩
theorem N2t {x:Operand}:oK E lim none (some 2) mask (.mov x) fr H Q=nxK E.dt (Zw lim (ev fr x) H) Q:=by
 unfold oK nxK stepX Ndd
 simp only
 cases Zw lim (ev fr x) H with
 | none=>simp
 | some L=>exact propext ⟨by rintro ⟨_,_,h,q⟩;cases h;exact q,fun q=>⟨0,_,rfl,q⟩⟩
theorem Nxv {x:Operand}:oK E lim none (some 3) mask (.mov x) fr H Q=Ru (Y7 (ev fr x) H) Q:=by
 unfold oK Ru stepX Ndd
 simp only
 cases Y7 (ev fr x) H with
 | none=>simp
 | some p=>exact propext ⟨by rintro ⟨_,_,h,q⟩;cases h;rw [Ui] at q;exact q,fun q=>⟨0,_,rfl,by rw [Ui];exact q⟩⟩
def Njb (c:Option ((FuncId ⊕ Nat)×List Value)) (f:FuncId ⊕ Nat->List Value->Prop) (_:Bx f:=⟨⟩):Prop:=match c with | some (g,as)=>f g as | none=>False
theorem Nbk {mp:Bool} {g:FuncId} {as:List Value}:VV E mp lim (.inl g) as H Q=NP E mp lim g as H Q:=rfl
theorem Nhv {mp:Bool} {i:Nat} {as:List Value}:VV E mp lim (.inr i) as H Q=Ws E mp lim i as H Q:=rfl
theorem Nvb {g:FuncId ⊕ Nat} {as:List Value} {f:FuncId ⊕ Nat->List Value->Prop}:Njb (some (g,as)) f=f g as:=rfl
theorem Nkl:CM.any.isPure=false:=id rfl
theorem Nsr:CM.pure.isPure=true:=id rfl
theorem N2a:CM.mk.isPure=false:=id rfl
def CM.free:CM->Bool
 | .maps | .recs=>false
 | _=>true
theorem Nze:CM.free .any=true:=id rfl
theorem Nuh:CM.free .pure=true:=id rfl
theorem N3h:CM.free .mk=true:=id rfl
theorem No7 {H:NA} {p:Addr}:loadX none H p=loadCell H p:=id rfl
theorem No6 {H:NA} {p:Addr} {k:Nat}:loadX (some k) H p=(loadCells H p k).map fun c=>.agg c.toArray:=id rfl
theorem Npe {ro:Bool} {p:Option Addr} {l:List Value}:R9 (.cells ro (.pointer p::l))=true:=id rfl
theorem Niz {ro:Bool} {p:Option Addr} {n c:Nat} {l:List Value}:R9 (.cells ro (.slice p n c::l))=true:=id rfl
theorem Nec {ro:Bool} {k:IntKind} {n:Int} {l:List Value}:R9 (.cells ro (.int k n::l))=R9 (.cells ro l):=id rfl
theorem N20 {H:NA}:CM.any.lim lim H=lim:=id rfl
theorem Nx8 {H:NA}:CM.pure.lim lim H=lim:=id rfl
theorem N5w {H:NA}:CM.mk.lim lim H=H.length:=id rfl
theorem Nd5 {mp:CM} (hm:mp.free=true) {H:NA}:∀L:List (Value×NA),Yl (fun r=>Vk mp H (some r)) L=some L
 | []=>rfl
 | x::L=>by
   have e:Vk mp H (some x)=some x:=by cases mp<;>first | rfl | cases hm
   simp only [Yl,e,Nd5 hm L]
theorem N2u {mp:CM} {f:Operand} {args:List Operand} (hm:mp.free=true):oK E lim none none mask (.call mp f args) fr H Q=Njb (NF (ev fr f) (args.map (ev fr))) fun g as=>VV E mp.isPure (mp.lim lim H) g as H Q:=by
 unfold oK Njb VV
 simp only [stepX,XZ]
 cases NF (ev fr f) (args.map (ev fr)) with
 | none=>simp
 | some p=>
   obtain ⟨g,as⟩:=p
   simp only
   apply propext
   constructor
   ·rintro ⟨n,L,h,q⟩
    split at h
    ·rename_i L0 h0
     rw [Nd5 hm] at h
     cases h
     exact ⟨n,L,h0,q⟩
    ·cases h
   ·rintro ⟨n,L,h,q⟩
    exact ⟨n,L,by rw [h];exact Nd5 hm L,q⟩
theorem MV {C:SI} {mp:Bool} {t:FuncId ⊕ Nat} {as:List Value} {p:Value×NA}:det C mp lim t as H=some p↔C mp lim t as H=some [p]:=by
 unfold det
 constructor
 ·exact fun h=>Sd h
 ·intro h;rw [h];rfl
theorem Nxw {E':Env} [hE:DT E E'] {b:Nat} {mp:CM} {f:Operand} {args:List Operand} (hm:mp.free=true):oK E lim (some b) dest mask (.call mp f args) fr H Q=Njb (NF (ev fr f) (args.map (ev fr))) fun g as=>VV E' mp.isPure (mp.lim lim (NU b mask H)) g as (NU b mask H) fun v H'=>Q v (NS b mask H H'):=by
 obtain rfl:=hE.eq
 unfold oK Njb QZ VV
 simp only
 cases NF (ev fr f) (args.map (ev fr)) with
 | none=>simp
 | some p=>
   obtain ⟨g,as⟩:=p
   have e:∀r,Vk mp (NU b mask H) r=r:=fun r=>by cases mp<;>first | rfl | cases hm
   simp only [e,MV,Nah]
   apply propext
   constructor
   ·rintro ⟨n,v,H',h,q⟩
    exact ⟨n,_,h,by rw [U0];exact q⟩
   ·rintro ⟨n,L,h,q⟩
    obtain ⟨⟨v,H'⟩,rfl⟩:=q.1 rfl
    rw [U0] at q
    exact ⟨n,v,H',h,q⟩
theorem Nxu {E':Env} [hE:DT E E'] {b:Nat} {f:Operand} {args:List Operand}:oK E lim (some b) dest mask (.call .maps f args) fr H Q=Njb (NF (ev fr f) (args.map (ev fr))) fun g as=>VV E' false lim g as (NU b mask H) fun v H'=>VE (NU b mask H) H'=true/\Q v (NS b mask H H'):=by
 obtain rfl:=hE.eq
 unfold oK Njb VV
 simp only [QZ]
 cases NF (ev fr f) (args.map (ev fr)) with
 | none=>simp
 | some p=>
   obtain ⟨g,as⟩:=p
   simp only [Nah]
   apply propext
   constructor
   ·rintro ⟨n,v,H',h,q⟩
    obtain ⟨h1,h2⟩:=Sn h
    exact ⟨n,_,MV.1 h1,by rw [U0];exact ⟨h2 rfl,q⟩⟩
   ·rintro ⟨n,L,h1,q⟩
    obtain ⟨⟨v,H'⟩,rfl⟩:=q.1 rfl
    rw [U0] at q
    obtain ⟨h2,q⟩:=q
    refine ⟨n,v,H', ?_,q⟩
    show Vk .maps (NU b mask H) (det (Rl E n) false lim g as (NU b mask H))=some (v,H')
    rw [MV.2 h1]
    simp only [Vk,Nh h2]
theorem Nxs {E':Env} [hE:DT E E'] {b:Nat} {f:Operand} {args:List Operand}:oK E lim (some b) dest mask (.call .recs f args) fr H Q=Njb (NF (ev fr f) (args.map (ev fr))) fun g as=>VV E' false lim g as (NU b mask H) fun v H'=>WN (NU b mask H) H'=true/\Q v (NS b mask H H'):=by
 obtain rfl:=hE.eq
 unfold oK Njb VV
 simp only [QZ]
 cases NF (ev fr f) (args.map (ev fr)) with
 | none=>simp
 | some p=>
   obtain ⟨g,as⟩:=p
   simp only [Nah]
   apply propext
   constructor
   ·rintro ⟨n,v,H',h,q⟩
    have h2:=Nbc h
    exact ⟨n,_,MV.1 (Sn h).1,by rw [U0];exact ⟨h2,q⟩⟩
   ·rintro ⟨n,L,h1,q⟩
    obtain ⟨⟨v,H'⟩,rfl⟩:=q.1 rfl
    rw [U0] at q
    obtain ⟨h2,q⟩:=q
    refine ⟨n,v,H', ?_,q⟩
    show Vk .recs (NU b mask H) (det (Rl E n) false lim g as (NU b mask H))=some (v,H')
    rw [MV.2 h1]
    simp only [Vk,Nh h2]
theorem VV.all {mp:Bool} {t:FuncId ⊕ Nat} {as:List Value} {n:Nat} {L:List (Value×NA)} (h:Rl E n mp lim t as H=some L):VV E mp lim t as H Q=Nai E.dt L Q:=by
 apply propext
 constructor
 ·rintro ⟨m,b,h1,h2⟩
  have e1:=Uy E (P8 n m) _ _ _ _ _ _ h
  have e2:=Uy E (Pi n m) _ _ _ _ _ _ h1
  rw [e1] at e2;cases e2;exact h2
 ·exact fun a=>⟨n,L,h,a⟩
theorem NP.det {mp:Bool} {g:FuncId} {as:List Value} {n:Nat} {v:Value} {H':NA} (h:Rl E n mp lim (.inl g) as H=some [(v,H')]):NP E mp lim g as H Q=Q v H':=by
 rw [<-Nbk,VV.all h,U0]
theorem Nv0 {mp:Bool} {g:FuncId} {as:List Value} {v:Value} (ho:E.orc g as=none/\E.eff g as H=none) (ht:E.tr g=some af) (hp:E.pure g=true) (b:olds H.length 4 v=true) (h:QC E af H.length [.code af.body] (NE as) H fun v' _=>v'=v):NP E mp lim g as H Q=Q v H:=by
 obtain ⟨n,L,h1,hd,h2⟩:=h
 have hL:=YY E _ _ _ _ _ _ _ h1
 cases L with
 | nil=>exact absurd rfl hL
 | cons x L=>
   obtain ⟨v',H'⟩:=x
   have e1:v'=v:=h2 _ (Nm)
   subst e1
   have a:(L.all fun r=>Rp v' r.1)=true:=N6.2 fun r hr=>by
    have:r.1=v':=h2 r (Nj _ hr)
    rw [this];exact Z5 v'
   exact NP.det (n:=n) (by unfold Rl QO;simp only [ho.1,ho.2,ht,hp,if_true,h1,a,b])
theorem Nqv {mp:Bool} {g:FuncId} {as:List Value} {v:Value} (ho:E.orc g as=none/\E.eff g as H=none) (ht:E.tr g=some af) (hp:E.pure g=true) (a:flat 4 v=true) (h:QC E af H.length [.code af.body] (NE as) H fun v' _=>v'=v):NP E mp lim g as H Q=Q v H:=
 Nv0 ho ht hp (Xm 4 a) h
theorem VF {mp:Bool} {g:FuncId} {as:List Value} (ho:E.orc g as=none/\E.eff g as H=none) (ht:E.tr g=some af) (hp:E.pure g=false) (hm:mp=false):NP E mp lim g as H Q=QC E af lim [.code af.body] (NE as) H Q:=by
 unfold NP QC Rl QO
 simp only [ho.1,ho.2,ht,hp,hm,Nz,if_false]
theorem Nbl {g:FuncId} {as:List Value} {r:Value×List (List Value)×Option (Nat×List Value)} (ho:E.orc g as=none) (he:E.eff g as H=some r) (a:XU lim H r.2.2=true):NP E false lim g as H Q=Q r.1 (Np0 H r.2):=
 NP.det (n:=0) (by unfold Rl QO;simp only [ho,he,a,Q4,Bool.or_self,Nz,if_false])
end
section
variable {E:Env} {af:AFunc} {lim:Nat} {K:List AItem} {fr fr':Nat->Value} {H H':NA} {R:Value->NA->Prop}
theorem Nw5 {v:Value} {f:Value->NA->Prop}:Ru (some (v,H)) f=f v H:=rfl
theorem upd_same {d:Nat} {v:Value}:upd fr d v d=v:=by simp [upd]
theorem upd_ne {d t:Nat} {v:Value} (h:t≠d):upd fr d v t=fr t:=by simp [upd,h]
theorem N54 {t:Nat}:ev fr (.tmp t)=fr t:=rfl
theorem Nzm {v:Value}:ev fr (.const v)=v:=rfl
theorem N3i {f:FuncId}:ev fr (.func f)=.func (.func f) #[] #[]:=rfl
theorem NI {X:NA} {j:Nat} (h:j<H.length):NC (H++X) j=NC H j:=by
 unfold NC;rw [Na,Na,N4 h]
theorem NR {X:NA} {j:Nat}:NC (H++X) (H.length+j)=X.getD j .dead:=by
 unfold NC;rw [Na,Na,Oc (by omega)];simp
theorem NQ {X:NA}:NC (H++X) H.length=X.getD 0 .dead:=NR (j:=0)
theorem Nh1 {X:NA} {j:Nat} {b:Blk}:(H++X).set (H.length+j) b=H++X.set j b:=by
 rw [Qn _ _ (by omega)];simp
theorem Nwu {X:NA} {b:Blk}:(H++X).set H.length b=H++X.set 0 b:=Nh1 (j:=0)
theorem Nx5 {b:Nat}:NU b [] H=H:=rfl
theorem Nnj {b:Nat} {H0:NA}:NS b [] H0 H=H:=rfl
end
section
variable {E:Env} {lim b:Nat} {dest:Option Nat} {mask:List Nat} {fr:Nat->Value} {H:NA} {Q:Value->NA->Prop}
theorem N5n {a:Operand}:oK E lim none none mask (.mov a) fr H Q=Ru (NJ lim none (.mov a) (ev fr) H) Q:=OX rfl
theorem N5r {a:Operand}:oK E lim (some b) dest mask (.mov a) fr H Q=Ru (NJ lim (dest.map (b+·)) (.mov a) (ev fr) (NU b mask H)) fun v H'=>Q v (NS b mask H H'):=OO rfl
theorem N2h {c a b:Operand}:oK E lim none none mask (.pick c a b) fr H Q=Ru (NJ lim none (.pick c a b) (ev fr) H) Q:=OX rfl
theorem N2o {d a c:Operand}:oK E lim (some b) dest mask (.pick d a c) fr H Q=Ru (NJ lim (dest.map (b+·)) (.pick d a c) (ev fr) (NU b mask H)) fun v H'=>Q v (NS b mask H H'):=OO rfl
theorem N5q {a:BinOp} {b c:Operand}:oK E lim none none mask (.bin a b c) fr H Q=Ru (NJ lim none (.bin a b c) (ev fr) H) Q:=OX rfl
theorem N5u {a:BinOp} {c d:Operand}:oK E lim (some b) dest mask (.bin a c d) fr H Q=Ru (NJ lim (dest.map (b+·)) (.bin a c d) (ev fr) (NU b mask H)) fun v H'=>Q v (NS b mask H H'):=OO rfl
theorem N5o {a:Bool} {b:EqKind} {c d:Operand}:oK E lim none none mask (.eqv a b c d) fr H Q=Ru (NJ lim none (.eqv a b c d) (ev fr) H) Q:=OX rfl
theorem N5s {a:Bool} {c:EqKind} {d e:Operand}:oK E lim (some b) dest mask (.eqv a c d e) fr H Q=Ru (NJ lim (dest.map (b+·)) (.eqv a c d e) (ev fr) (NU b mask H)) fun v H'=>Q v (NS b mask H H'):=OO rfl
theorem N7x {a:UnOp} {b:Operand}:oK E lim none none mask (.un a b) fr H Q=Ru (NJ lim none (.un a b) (ev fr) H) Q:=OX rfl
theorem N70 {a:UnOp} {c:Operand}:oK E lim (some b) dest mask (.un a c) fr H Q=Ru (NJ lim (dest.map (b+·)) (.un a c) (ev fr) (NU b mask H)) fun v H'=>Q v (NS b mask H H'):=OO rfl
theorem N2k {a:IntKind} {b:Operand}:oK E lim none none mask (.conv a b) fr H Q=Ru (NJ lim none (.conv a b) (ev fr) H) Q:=OX rfl
theorem N2r {a:IntKind} {c:Operand}:oK E lim (some b) dest mask (.conv a c) fr H Q=Ru (NJ lim (dest.map (b+·)) (.conv a c) (ev fr) (NU b mask H)) fun v H'=>Q v (NS b mask H H'):=OO rfl
theorem Nxe {a:List Value}:oK E lim none none mask (.alloc a) fr H Q=Ru (NJ lim none (.alloc a) (ev fr) H) Q:=OX rfl
theorem Nxr {a:List Value}:oK E lim (some b) dest mask (.alloc a) fr H Q=Ru (NJ lim (dest.map (b+·)) (.alloc a) (ev fr) (NU b mask H)) fun v H'=>Q v (NS b mask H H'):=OO rfl
theorem N5p {a:Operand}:oK E lim none none mask (.box a) fr H Q=Ru (NJ lim none (.box a) (ev fr) H) Q:=OX rfl
theorem N5t {a:Operand}:oK E lim (some b) dest mask (.box a) fr H Q=Ru (NJ lim (dest.map (b+·)) (.box a) (ev fr) (NU b mask H)) fun v H'=>Q v (NS b mask H H'):=OO rfl
theorem Nxd {b:List Value} {a:List (Nat×Nat×Operand)}:oK E lim none none mask (.build b a) fr H Q=Ru (NJ lim none (.build b a) (ev fr) H) Q:=OX rfl
theorem Nxq {c:List Value} {a:List (Nat×Nat×Operand)}:oK E lim (some b) dest mask (.build c a) fr H Q=Ru (NJ lim (dest.map (b+·)) (.build c a) (ev fr) (NU b mask H)) fun v H'=>Q v (NS b mask H H'):=OO rfl
theorem Nf2 {c:Nat} {b:List Value} {a:List (Nat×Nat×Operand)}:oK E lim none none mask (.buildSlice c b a) fr H Q=Ru (NJ lim none (.buildSlice c b a) (ev fr) H) Q:=OX rfl
theorem Nf4 {d:Nat} {c:List Value} {a:List (Nat×Nat×Operand)}:oK E lim (some b) dest mask (.buildSlice d c a) fr H Q=Ru (NJ lim (dest.map (b+·)) (.buildSlice d c a) (ev fr) (NU b mask H)) fun v H'=>Q v (NS b mask H H'):=OO rfl
theorem Nxa {a:Operand}:oK E lim none none mask (.load1 a) fr H Q=Ru (NJ lim none (.load1 a) (ev fr) H) Q:=OX rfl
theorem Nxn {a:Operand}:oK E lim (some b) dest mask (.load1 a) fr H Q=Ru (NJ lim (dest.map (b+·)) (.load1 a) (ev fr) (NU b mask H)) fun v H'=>Q v (NS b mask H H'):=OO rfl
theorem Nw9 {b:Nat} {a:Operand}:oK E lim none none mask (.loadN b a) fr H Q=Ru (NJ lim none (.loadN b a) (ev fr) H) Q:=OX rfl
theorem Nxk {c:Option Nat} {a:Operand}:oK E lim (some b) dest mask (.loadR c a) fr H Q=Ru (NJ lim (dest.map (b+·)) (.loadR c a) (ev fr) (NU b mask H)) fun v H'=>Q v (NS b mask H H'):=OO rfl
theorem Nxm {c:Nat} {a:Operand}:oK E lim (some b) dest mask (.loadN c a) fr H Q=Ru (NJ lim (dest.map (b+·)) (.loadN c a) (ev fr) (NU b mask H)) fun v H'=>Q v (NS b mask H H'):=OO rfl
theorem Nxl {d:Option Nat} {a c:Operand}:oK E lim (some b) dest mask (.loadO d a c) fr H Q=Ru (NJ lim (dest.map (b+·)) (.loadO d a c) (ev fr) (NU b mask H)) fun v H'=>Q v (NS b mask H H'):=OO rfl
theorem Ntb {c:Nat} {a d:Operand}:oK E lim (some b) dest mask (.storeN c a d) fr H Q=Ru (NJ lim (dest.map (b+·)) (.storeN c a d) (ev fr) (NU b mask H)) fun v H'=>Q v (NS b mask H H'):=OO rfl
theorem Nta {d:Nat} {a e c:Operand}:oK E lim (some b) dest mask (.storeO d a e c) fr H Q=Ru (NJ lim (dest.map (b+·)) (.storeO d a e c) (ev fr) (NU b mask H)) fun v H'=>Q v (NS b mask H H'):=OO rfl
theorem Ntc {b c:Nat} {a d:Operand}:oK E lim (some b) dest mask (.storeD c a d) fr H Q=Ru (NJ lim (dest.map (b+·)) (.storeD c a d) (ev fr) (NU b mask H)) fun v H'=>Q v (NS b mask H H'):=OO rfl
theorem Nw8 {b:Nat} {a c:Operand}:oK E lim none none mask (.store b a c) fr H Q=Ru (NJ lim none (.store b a c) (ev fr) H) Q:=OX rfl
theorem Nxj {c:Nat} {a d:Operand}:oK E lim (some b) dest mask (.store c a d) fr H Q=Ru (NJ lim (dest.map (b+·)) (.store c a d) (ev fr) (NU b mask H)) fun v H'=>Q v (NS b mask H H'):=OO rfl
theorem Nkp {a:Operand}:oK E lim none none mask (.nilCheck a) fr H Q=Ru (NJ lim none (.nilCheck a) (ev fr) H) Q:=OX rfl
theorem Nk0 {a:Operand}:oK E lim (some b) dest mask (.nilCheck a) fr H Q=Ru (NJ lim (dest.map (b+·)) (.nilCheck a) (ev fr) (NU b mask H)) fun v H'=>Q v (NS b mask H H'):=OO rfl
theorem Nig {a:Nat} {b:Operand}:oK E lim none none mask (.fieldAddr a b) fr H Q=Ru (NJ lim none (.fieldAddr a b) (ev fr) H) Q:=OX rfl
theorem Nim {a:Nat} {c:Operand}:oK E lim (some b) dest mask (.fieldAddr a c) fr H Q=Ru (NJ lim (dest.map (b+·)) (.fieldAddr a c) (ev fr) (NU b mask H)) fun v H'=>Q v (NS b mask H H'):=OO rfl
theorem Ns5 {a:Nat} {b:Operand}:oK E lim none none mask (.field1 a b) fr H Q=Ru (NJ lim none (.field1 a b) (ev fr) H) Q:=OX rfl
theorem Ntk {a:Nat} {c:Operand}:oK E lim (some b) dest mask (.field1 a c) fr H Q=Ru (NJ lim (dest.map (b+·)) (.field1 a c) (ev fr) (NU b mask H)) fun v H'=>Q v (NS b mask H H'):=OO rfl
theorem Ns4 {a b:Nat} {c:Operand}:oK E lim none none mask (.fieldN a b c) fr H Q=Ru (NJ lim none (.fieldN a b c) (ev fr) H) Q:=OX rfl
theorem Ntj {a c:Nat} {d:Operand}:oK E lim (some b) dest mask (.fieldN a c d) fr H Q=Ru (NJ lim (dest.map (b+·)) (.fieldN a c d) (ev fr) (NU b mask H)) fun v H'=>Q v (NS b mask H H'):=OO rfl
theorem Nku {b a:Nat} {d c:Operand}:oK E lim none none mask (.idxAddrA b a d c) fr H Q=Ru (NJ lim none (.idxAddrA b a d c) (ev fr) H) Q:=OX rfl
theorem Nk5 {c a:Nat} {e d:Operand}:oK E lim (some b) dest mask (.idxAddrA c a e d) fr H Q=Ru (NJ lim (dest.map (b+·)) (.idxAddrA c a e d) (ev fr) (NU b mask H)) fun v H'=>Q v (NS b mask H H'):=OO rfl
theorem N2j {c b:Nat} {a:Bool} {e d:Operand}:oK E lim none none mask (.idxA c b a e d) fr H Q=Ru (NJ lim none (.idxA c b a e d) (ev fr) H) Q:=OX rfl
theorem N2q {d c:Nat} {a:Bool} {f e:Operand}:oK E lim (some b) dest mask (.idxA d c a f e) fr H Q=Ru (NJ lim (dest.map (b+·)) (.idxA d c a f e) (ev fr) (NU b mask H)) fun v H'=>Q v (NS b mask H H'):=OO rfl
theorem Ns3 {b a:Operand}:oK E lim none none mask (.idxStr b a) fr H Q=Ru (NJ lim none (.idxStr b a) (ev fr) H) Q:=OX rfl
theorem Nti {c a:Operand}:oK E lim (some b) dest mask (.idxStr c a) fr H Q=Ru (NJ lim (dest.map (b+·)) (.idxStr c a) (ev fr) (NU b mask H)) fun v H'=>Q v (NS b mask H H'):=OO rfl
theorem Nsy {a:Nat} {e:Operand} {c b d:Option Operand}:oK E lim none none mask (.sliceS a e c b d) fr H Q=Ru (NJ lim none (.sliceS a e c b d) (ev fr) H) Q:=OX rfl
theorem Ntd {a:Nat} {f:Operand} {d c e:Option Operand}:oK E lim (some b) dest mask (.sliceS a f d c e) fr H Q=Ru (NJ lim (dest.map (b+·)) (.sliceS a f d c e) (ev fr) (NU b mask H)) fun v H'=>Q v (NS b mask H H'):=OO rfl
theorem Nko {c:Operand} {b a:Option Operand}:oK E lim none none mask (.sliceStr c b a) fr H Q=Ru (NJ lim none (.sliceStr c b a) (ev fr) H) Q:=OX rfl
theorem Nkz {d:Operand} {c a:Option Operand}:oK E lim (some b) dest mask (.sliceStr d c a) fr H Q=Ru (NJ lim (dest.map (b+·)) (.sliceStr d c a) (ev fr) (NU b mask H)) fun v H'=>Q v (NS b mask H H'):=OO rfl
theorem Ns1 {a:Operand}:oK E lim none none mask (.lenStr a) fr H Q=Ru (NJ lim none (.lenStr a) (ev fr) H) Q:=OX rfl
theorem Ntg {a:Operand}:oK E lim (some b) dest mask (.lenStr a) fr H Q=Ru (NJ lim (dest.map (b+·)) (.lenStr a) (ev fr) (NU b mask H)) fun v H'=>Q v (NS b mask H H'):=OO rfl
theorem Nkv {a:Operand}:oK E lim none none mask (.capSlice a) fr H Q=Ru (NJ lim none (.capSlice a) (ev fr) H) Q:=OX rfl
theorem Nk6 {a:Operand}:oK E lim (some b) dest mask (.capSlice a) fr H Q=Ru (NJ lim (dest.map (b+·)) (.capSlice a) (ev fr) (NU b mask H)) fun v H'=>Q v (NS b mask H H'):=OO rfl
theorem Nks {a:Operand}:oK E lim none none mask (.lenSlice a) fr H Q=Ru (NJ lim none (.lenSlice a) (ev fr) H) Q:=OX rfl
theorem Nk3 {a:Operand}:oK E lim (some b) dest mask (.lenSlice a) fr H Q=Ru (NJ lim (dest.map (b+·)) (.lenSlice a) (ev fr) (NU b mask H)) fun v H'=>Q v (NS b mask H H'):=OO rfl
theorem Ns2 {a:Operand}:oK E lim none none mask (.lenMap a) fr H Q=Ru (NJ lim none (.lenMap a) (ev fr) H) Q:=OX rfl
theorem Nth {a:Operand}:oK E lim (some b) dest mask (.lenMap a) fr H Q=Ru (NJ lim (dest.map (b+·)) (.lenMap a) (ev fr) (NU b mask H)) fun v H'=>Q v (NS b mask H H'):=OO rfl
theorem N2i {a:Nat}:oK E lim none none mask (.lenK a) fr H Q=Ru (NJ lim none (.lenK a) (ev fr) H) Q:=OX rfl
theorem N2p {a:Nat}:oK E lim (some b) dest mask (.lenK a) fr H Q=Ru (NJ lim (dest.map (b+·)) (.lenK a) (ev fr) (NU b mask H)) fun v H'=>Q v (NS b mask H H'):=OO rfl
theorem Ns7 {b a:Nat} {c:Bool} {d e:Operand}:oK E lim none none mask (.append b a c d e) fr H Q=Ru (NJ lim none (.append b a c d e) (ev fr) H) Q:=OX rfl
theorem Ntm {c a:Nat} {d:Bool} {e f:Operand}:oK E lim (some b) dest mask (.append c a d e f) fr H Q=Ru (NJ lim (dest.map (b+·)) (.append c a d e f) (ev fr) (NU b mask H)) fun v H'=>Q v (NS b mask H H'):=OO rfl
theorem Noj {b a:Nat} {c:Bool} {d e:Operand}:oK E lim none none mask (.append0 b a c d e) fr H Q=Ru (NJ lim none (.append0 b a c d e) (ev fr) H) Q:=OX rfl
theorem Nos {c a:Nat} {d:Bool} {e f:Operand}:oK E lim (some b) dest mask (.append0 c a d e f) fr H Q=Ru (NJ lim (dest.map (b+·)) (.append0 c a d e f) (ev fr) (NU b mask H)) fun v H'=>Q v (NS b mask H H'):=OO rfl
theorem Nsz {a:Bool} {b:List Operand}:oK E lim none none mask (.minmax a b) fr H Q=Ru (NJ lim none (.minmax a b) (ev fr) H) Q:=OX rfl
theorem Nte {a:Bool} {c:List Operand}:oK E lim (some b) dest mask (.minmax a c) fr H Q=Ru (NJ lim (dest.map (b+·)) (.minmax a c) (ev fr) (NU b mask H)) fun v H'=>Q v (NS b mask H H'):=OO rfl
theorem Nif {d a:Nat} {b:List Value} {e c:Operand}:oK E lim none none mask (.makeSlice d a b e c) fr H Q=Ru (NJ lim none (.makeSlice d a b e c) (ev fr) H) Q:=OX rfl
theorem Nik {e a:Nat} {c:List Value} {f d:Operand}:oK E lim (some b) dest mask (.makeSlice e a c f d) fr H Q=Ru (NJ lim (dest.map (b+·)) (.makeSlice e a c f d) (ev fr) (NU b mask H)) fun v H'=>Q v (NS b mask H H'):=OO rfl
theorem Noh {d a:Nat} {b:List Value} {e c:Operand}:oK E lim none none mask (.growNil d a b e c) fr H Q=Ru (NJ lim none (.growNil d a b e c) (ev fr) H) Q:=OX rfl
theorem Noq {e a:Nat} {c:List Value} {f d:Operand}:oK E lim (some b) dest mask (.growNil e a c f d) fr H Q=Ru (NJ lim (dest.map (b+·)) (.growNil e a c f d) (ev fr) (NU b mask H)) fun v H'=>Q v (NS b mask H H'):=OO rfl
theorem Nog {a:Option Operand}:oK E lim none none mask (.makeMap a) fr H Q=Ru (NJ lim none (.makeMap a) (ev fr) H) Q:=OX rfl
theorem Nop {a:Option Operand}:oK E lim (some b) dest mask (.makeMap a) fr H Q=Ru (NJ lim (dest.map (b+·)) (.makeMap a) (ev fr) (NU b mask H)) fun v H'=>Q v (NS b mask H H'):=OO rfl
theorem Ns0 {c:KK} {a:Value} {d:Bool} {e b:Operand}:oK E lim none none mask (.lookup c a d e b) fr H Q=Ru (NJ lim none (.lookup c a d e b) (ev fr) H) Q:=OX rfl
theorem Ntf {d:KK} {a:Value} {e:Bool} {f c:Operand}:oK E lim (some b) dest mask (.lookup d a e f c) fr H Q=Ru (NJ lim (dest.map (b+·)) (.lookup d a e f c) (ev fr) (NU b mask H)) fun v H'=>Q v (NS b mask H H'):=OO rfl
theorem Nie {b:KK} {c a d:Operand}:oK E lim none none mask (.mapUpdate b c a d) fr H Q=Ru (NJ lim none (.mapUpdate b c a d) (ev fr) H) Q:=OX rfl
theorem Nij {c:KK} {d a e:Operand}:oK E lim (some b) dest mask (.mapUpdate c d a e) fr H Q=Ru (NJ lim (dest.map (b+·)) (.mapUpdate c d a e) (ev fr) (NU b mask H)) fun v H'=>Q v (NS b mask H H'):=OO rfl
theorem Nkq {b:KK} {d:Value} {c a:Operand}:oK E lim none none mask (.mapEntry b d c a) fr H Q=Ru (NJ lim none (.mapEntry b d c a) (ev fr) H) Q:=OX rfl
theorem Nk1 {c:KK} {e:Value} {d a:Operand}:oK E lim (some b) dest mask (.mapEntry c e d a) fr H Q=Ru (NJ lim (dest.map (b+·)) (.mapEntry c e d a) (ev fr) (NU b mask H)) fun v H'=>Q v (NS b mask H H'):=OO rfl
theorem Nf1 {a b c:Operand}:oK E lim none none mask (.entryStore a b c) fr H Q=Ru (NJ lim none (.entryStore a b c) (ev fr) H) Q:=OX rfl
theorem Nf3 {a c d:Operand}:oK E lim (some b) dest mask (.entryStore a c d) fr H Q=Ru (NJ lim (dest.map (b+·)) (.entryStore a c d) (ev fr) (NU b mask H)) fun v H'=>Q v (NS b mask H H'):=OO rfl
theorem Nxc {b:List Value} {a:Operand}:oK E lim none none mask (.clear b a) fr H Q=Ru (NJ lim none (.clear b a) (ev fr) H) Q:=OX rfl
theorem Nxp {c:List Value} {a:Operand}:oK E lim (some b) dest mask (.clear c a) fr H Q=Ru (NJ lim (dest.map (b+·)) (.clear c a) (ev fr) (NU b mask H)) fun v H'=>Q v (NS b mask H H'):=OO rfl
theorem Ns6 {b:KK} {c a:Operand}:oK E lim none none mask (.delete b c a) fr H Q=Ru (NJ lim none (.delete b c a) (ev fr) H) Q:=OX rfl
theorem Ntl {c:KK} {d a:Operand}:oK E lim (some b) dest mask (.delete c d a) fr H Q=Ru (NJ lim (dest.map (b+·)) (.delete c d a) (ev fr) (NU b mask H)) fun v H'=>Q v (NS b mask H H'):=OO rfl
theorem Nkr {c:FuncId} {b a:List Operand}:oK E lim none none mask (.makeFunc c b a) fr H Q=Ru (NJ lim none (.makeFunc c b a) (ev fr) H) Q:=OX rfl
theorem Nk2 {d:FuncId} {c a:List Operand}:oK E lim (some b) dest mask (.makeFunc d c a) fr H Q=Ru (NJ lim (dest.map (b+·)) (.makeFunc d c a) (ev fr) (NU b mask H)) fun v H'=>Q v (NS b mask H H'):=OO rfl
theorem Noi {a:Nat} {b:Operand}:oK E lim none none mask (.extract a b) fr H Q=Ru (NJ lim none (.extract a b) (ev fr) H) Q:=OX rfl
theorem Nor {a:Nat} {c:Operand}:oK E lim (some b) dest mask (.extract a c) fr H Q=Ru (NJ lim (dest.map (b+·)) (.extract a c) (ev fr) (NU b mask H)) fun v H'=>Q v (NS b mask H H'):=OO rfl
theorem Nof {a:Operand}:oK E lim none none mask (.rowMark a) fr H Q=Ru (NJ lim none (.rowMark a) (ev fr) H) Q:=OX rfl
theorem Noo {a:Operand}:oK E lim (some b) dest mask (.rowMark a) fr H Q=Ru (NJ lim (dest.map (b+·)) (.rowMark a) (ev fr) (NU b mask H)) fun v H'=>Q v (NS b mask H H'):=OO rfl
theorem Nw7 {a:Operand}:oK E lim none none mask (.strId a) fr H Q=Ru (NJ lim none (.strId a) (ev fr) H) Q:=OX rfl
theorem Nxi {a:Operand}:oK E lim (some b) dest mask (.strId a) fr H Q=Ru (NJ lim (dest.map (b+·)) (.strId a) (ev fr) (NU b mask H)) fun v H'=>Q v (NS b mask H H'):=OO rfl
end
section
variable {E:Env} {af:AFunc} {lim:Nat} {K:List AItem} {fr:Nat->Value} {H:NA} {R:Value->NA->Prop}
theorem N68 {base g o dest mask l} {d:Nat} (hd:d<af.ntmps):QC E af lim (.ops base (⟨some d,g,o,dest,mask⟩::l)::K) fr H R =
  gK af.ntmps fr g (oK E lim base dest mask o fr H fun v H'=>QC E af lim (.ops base l::K) (upd fr d v) H' R) (QC E af lim (.ops base l::K) (upd fr d undef) H R):=N46 (d:=some d) (by simp [dOk,hd])
theorem N69 {base g o dest mask l}:QC E af lim (.ops base (⟨none,g,o,dest,mask⟩::l)::K) fr H R =
  gK af.ntmps fr g (oK E lim base dest mask o fr H fun v H'=>QC E af lim (.ops base l::K) fr H' R) (QC E af lim (.ops base l::K) fr H R):=N46 (d:=none) rfl
end
section
variable {E:Env} {af:AFunc} {lim:Nat} {K:List AItem} {fr:Nat->Value} {H:NA} {R:Value->NA->Prop}
end
section
variable {p q:Prop} {c:Prop} [Decidable c]
theorem Nv6:T9 (.bool true) true p q=p:=by simp [T9]
theorem Nv9:T9 (.bool false) false p q=p:=by simp [T9]
theorem Nv7:T9 (.bool true) false p q=q:=by simp [T9]
theorem Nv8:T9 (.bool false) true p q=q:=by simp [T9]
theorem N0c:Ne2 (.bool true) p q=p:=rfl
theorem N0d:Ne2 (.bool false) p q=q:=rfl
theorem WE {b:Bool} (h1:c->T9 (.bool true) b p q) (h2:¬c->T9 (.bool false) b p q):T9 (.bool (decide c)) b p q:=by
 by_cases h:c
 ·rw [Ns h];exact h1 h
 ·rw [Oa h];exact h2 h
theorem WW (h1:c->p) (h2:¬c->q):Ne2 (.bool (decide c)) p q:=by
 by_cases h:c
 ·rw [Ns h];exact h1 h
 ·rw [Oa h];exact h2 h
theorem WG {t b:Bool} (h1:t=true->T9 (.bool true) b p q) (h2:t=false->T9 (.bool false) b p q):T9 (.bool t) b p q:=by
 cases t
 ·exact h2 rfl
 ·exact h1 rfl
theorem WX {t:Bool} (h1:t=true->p) (h2:t=false->q):Ne2 (.bool t) p q:=by
 cases t
 ·exact h2 rfl
 ·exact h1 rfl
theorem N27 {a b:Int}:(a == b)=decide (a=b):=by by_cases h:a=b<;>simp [h]
theorem N26 {a b:Int}:(a != b)=decide (¬a=b):=by by_cases h:a=b<;>simp [h,bne]
theorem N2v:(!decide c)=decide (¬c):=by by_cases h:c<;>simp [h]
end
def VK (off size:Nat) (v:Value) (c:List Value):Option (List Value):=
 if v.cells.toList.length=size/\off+size<=c.length/\NB v=true then some (QW c off v.cells.toList) else none
def Nmd (ρ:Operand->Value) (rest:List (Nat×Nat×Operand)) (r:Option (List Value)):Option (List Value):=match r with | some c=>R3 ρ rest c | none=>none
theorem Neq {ρ:Operand->Value} {off size:Nat} {x:Operand} {rest:List (Nat×Nat×Operand)} {c:List Value}:R3 ρ ((off,size,x)::rest) c=Nmd ρ rest (VK off size (ρ x) c):=by
 unfold Nmd VK
 simp only [R3]
 split<;>rfl
theorem Nf6 {ρ:Operand->Value} {c:List Value}:R3 ρ [] c=some c:=rfl
theorem Npo {ρ:Operand->Value} {rest:List (Nat×Nat×Operand)} {c:List Value}:Nmd ρ rest (some c)=R3 ρ rest c:=rfl
theorem Nmc {ρ:Operand->Value} {rest:List (Nat×Nat×Operand)} {r r':Option (List Value)} (h:r=r'):Nmd ρ rest r=Nmd ρ rest r':=by rw [h]
theorem Nmb {off size:Nat} {v v':Value} {c:List Value} (h:v=v'):VK off size v c=VK off size v' c:=by rw [h]
attribute [congr] Nmc Nmb
theorem VC {off:Nat} {v:Value} {c:List Value} (hv:v.oneCell'=true) (ht:NB v=true) (h:off<c.length):VK off 1 v c=some (c.set off v):=by
 cases v<;>first | (simp [Value.oneCell'] at hv;done) | (simp [NB] at ht;done) | (unfold VK;rw [Nh ⟨by simp [Value.cells],h,ht⟩];rfl)
theorem Nur {off:Nat} {k:IntKind} {n:Int} {c:List Value} (h:off<c.length):VK off 1 (.int k n) c=some (c.set off (.int k n)):=VC rfl rfl h
theorem Npn {off:Nat} {b:Bool} {c:List Value} (h:off<c.length):VK off 1 (.bool b) c=some (c.set off (.bool b)):=VC rfl rfl h
theorem Nus {off n:Nat} {l c:List Value} (h:l.length=n/\off+n<=c.length):VK off n (.agg l.toArray) c=some (QW c off l):=by
 unfold VK
 rw [Nh ⟨by simpa [Value.cells] using h.1,h.2,rfl⟩]
 rfl
theorem Nnx {c:List Value} {o:Nat}:QW c o []=c:=rfl
theorem Ua {c:List Value} {o:Nat} {v:Value} {vs:List Value}:QW c o (v::vs)=QW (c.set o v) (o+1) vs:=rfl
section
variable {fr:Nat->Value} {H:NA}
theorem Nu9 {a:Array Value}:(Value.agg a).cells=a:=rfl
theorem Nu8 {k:IntKind} {n:Int}:(Value.int k n).cells=#[.int k n]:=rfl
theorem Nqb {b:Bool}:(Value.bool b).cells=#[.bool b]:=rfl
theorem N0q {l:List Value}:l.toArray.toList=l:=rfl
theorem N0p {l:List Value}:l.toArray.size=l.length:=rfl
def N0b:Option Value->Option (List Value)->Option (List Value)
 | some v,some vs=>some (v::vs)
 | _,_=>none
def Nzl:Option (List Value)->Option Value
 | some [v]=>some v
 | some vs=>some (.tuple vs.toArray)
 | none=>none
theorem Nn1:U9 fr H []=some []:=rfl
theorem Nki {r:ARes} {a:List ARes}:U9 fr H (r::a)=N0b (ND fr H r) (U9 fr H a):=by
 unfold N0b
 simp only [U9]
 cases ND fr H r<;>cases U9 fr H a<;>rfl
theorem Nn0 {a:List ARes}:result fr H a=Nzl (U9 fr H a):=by
 unfold Nzl result
 cases U9 fr H a<;>rfl
theorem Np6 {v:Value} {vs:List Value}:N0b (some v) (some vs)=some (v::vs):=rfl
theorem Nzj {v:Value}:Nzl (some [v])=some v:=rfl
theorem Nun {v u:Value} {vs:List Value}:Nzl (some (v::u::vs))=some (.tuple (v::u::vs).toArray):=rfl
theorem Nzk:Nzl (some [])=some (.tuple #[]):=rfl
end
def MC (e:Nat) (x i:Value) (H:NA):Option (Value×NA):=match x,i with
    | .slice (some p) len _,.int _ n=>if 0<=n/\n<(len:Int) then some (.pointer (some (p.add (n.toNat*e))),H) else none
    | _,_=>none
theorem Nm1 {lim:Nat} {dest:Option Nat} {e:Nat} {x i:Operand} {ρ:Operand->Value} {H:NA}:NJ lim dest (.idxAddrS e x i) ρ H=MC e (ρ x) (ρ i) H:=by
 simp only [NJ];unfold MC;rfl
theorem Yu {e n len c:Nat} {p:Addr} {k:IntKind} {H:NA} (h:n<len):MC e (.slice (some p) len c) (.int k (n:Int)) H=some (.pointer (some (p.add (n*e))),H):=by
 unfold MC
 simp only
 rw [Nh ⟨by omega,by omega⟩]
 simp
section
variable {E:Env} {lim b:Nat} {dest:Option Nat} {mask:List Nat} {fr:Nat->Value} {H:NA} {Q:Value->NA->Prop}
theorem Nkt {e:Nat} {x i:Operand}:oK E lim none none mask (.idxAddrS e x i) fr H Q=Ru (MC e (ev fr x) (ev fr i) H) Q:=by rw [OX rfl,Nm1]
theorem Nk4 {e:Nat} {x i:Operand}:oK E lim (some b) dest mask (.idxAddrS e x i) fr H Q=Ru (MC e (ev fr x) (ev fr i) (NU b mask H)) fun v H'=>Q v (NS b mask H H'):=by rw [OO rfl,Nm1]
end
theorem addr_add {b o n:Nat}:(⟨b,o,none⟩:Addr).add n=⟨b,o+n,none⟩:=by
 simp only [Addr.add]
 first | rfl | (split<;>simp_all)
theorem OV {n:Nat} (h:n+1<2 ^ 63):IntKind.i64.wrap ((n:Int)+1)=((n+1:Nat):Int):=by
 have h1:((n:Int)+1) % 2 ^ 64=(n:Int)+1:=Re (by omega) (by omega)
 simp only [IntKind.wrap,IntKind.bits,IntKind.signed,h1]
 rw [Ng (by simp;omega)]
 omega
section
variable {b i:Nat} {l:List Nat} {H H0:NA}
theorem Nts:NU b (i::l) H=NU b l (H.set (b+i) .dead):=rfl
theorem Njw:NS b (i::l) H0 H=NS b l H0 (H.set (b+i) (NC H0 (b+i))):=rfl
theorem N2e:List.replicate 1 Blk.dead=[.dead]:=rfl
theorem Nw1:List.replicate 0 Blk.dead=[]:=rfl
theorem N2d:List.replicate 2 Blk.dead=[.dead,.dead]:=rfl
theorem Nsv:List.replicate 3 Blk.dead=[.dead,.dead,.dead]:=rfl
end
end Go.AM


