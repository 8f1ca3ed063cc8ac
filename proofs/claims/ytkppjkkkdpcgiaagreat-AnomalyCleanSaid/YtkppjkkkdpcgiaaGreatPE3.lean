/-
  Joined texts, 3 of 9. A part of the claim that the last text states.
-/
import Derived.Laws.IdiomRangeMap
import Derived.Below
import Derived.Sort.AssemblyPlain
import Derived.Test.YtkppjkkkdpcgiaaGreatPE2
set_option linter.unusedVariables false
set_option linter.unusedSimpArgs false
set_option linter.defProp false
set_option linter.unusedSectionVars false
set_option maxRecDepth 100000
set_option maxHeartbeats 4000000
namespace Go.AM
def CLe (C a:TP):Prop:=∀mp lim g as H r,C mp lim g as H=some r->a mp lim g as H=some r
theorem Nbl {C c:TP} (h:CLe C c) {lim:Nat} {dest:Option Nat} {o:AOp} {ρ:Operand->Value} {H:NE} {r} (a:Ry C lim dest o ρ H=some r):Ry c lim dest o ρ H=some r:=by
 by_cases hc:∃mp f args,o=.call mp f args
 ·obtain ⟨mp,f,args,rfl⟩:=hc
  simp only [Ry] at a⊢
  split at a
  ·exact Nus (fun p hp=>h _ _ _ _ _ _ hp) a
  ·cases a
 ·have b:∀mp f args,o≠.call mp f args:=fun mp f args e=>hc ⟨mp,f,args,e⟩
  rw [OQ b] at a⊢
  exact a
theorem ZY {C c:TP} (h:CLe C c) {N lim:Nat} {base:Option Nat} {i:AIns} {fr:Nat->Value} {H:NE} {r} (a:TA C N lim base i fr H=some r):TA c N lim base i fr H=some r:=by
 unfold TA at a⊢
 cases hv:SF C N lim base i fr H with
 | none=>rw [hv] at a;cases a
 | some p=>
   have:SF c N lim base i fr H=some p:=by
    unfold SF at hv⊢
    cases hw:RG N fr i.guard with
    | none=>rw [hw] at hv;cases hv
    | some b=>
      rw [hw] at hv
      cases b with
      | false=>exact hv
      | true=>
        cases base with
        | none=>exact Nbl h hv
        | some b=>
          simp only at hv⊢
          cases hs:Ry C lim (i.dest.map (b+·)) i.op (ev fr) (OD b i.mask H) with
          | none=>rw [hs] at hv;cases hv
          | some q=>rw [hs] at hv;rw [Nbl h hs];exact hv
   rw [hv] at a
   rw [this]
   exact a
theorem Zg {α β:Type} {f:α->Option β}:∀{l:List α} {r:List β},Y5 f l=some r->∀y∈r,∃x∈l,f x=some y
 | [],r,h,y,hy=>by cases h;cases hy
 | x::l,r,h,y,hy=>by
   simp only [Y5] at h
   split at h
   ·rename_i a b c d
    cases h
    rcases Np.1 hy with rfl | hy
    ·exact ⟨x,by simp,c⟩
    ·obtain ⟨z,g,e⟩:=Zg d y hy
     exact ⟨z,by simp [g],e⟩
   ·cases h
theorem Y4 {α β:Type} {f:α->Option β}:∀{l:List α} {r:List β},Y5 f l=some r->∀x∈l,∃y∈r,f x=some y
 | [],r,h,x,hx=>by cases hx
 | z::l,r,h,x,hx=>by
   simp only [Y5] at h
   split at h
   ·rename_i a b c d
    cases h
    rcases Np.1 hx with rfl | hx
    ·exact ⟨a,by simp,c⟩
    ·obtain ⟨y,g,e⟩:=Y4 d x hx
     exact ⟨y,by simp [g],e⟩
   ·cases h
theorem UR {α β:Type} {f:α->Option (List β)}:∀{l:List α} {r:List β},TM f l=some r->∀x∈l,∃s,f x=some s/\∀y∈s,y∈r
 | [],r,h,x,hx=>by cases hx
 | z::l,r,h,x,hx=>by
   simp only [TM] at h
   split at h
   ·rename_i a b d g
    cases h
    rcases Np.1 hx with rfl | hx
    ·exact ⟨a,d,fun y c=>by simp [c]⟩
    ·obtain ⟨s,hs,e⟩:=UR g x hx
     exact ⟨s,hs,fun y c=>by simp [e y c]⟩
   ·cases h
theorem UT {α β:Type} {f:α->Option (List β)}:∀{l:List α} {r:List β},TM f l=some r->∀y∈r,∃x∈l,∃s,f x=some s/\y∈s
 | [],r,h,y,hy=>by cases h;cases hy
 | z::l,r,h,y,hy=>by
   simp only [TM] at h
   split at h
   ·rename_i a b c d
    cases h
    rcases Ol.1 hy with hy | hy
    ·exact ⟨z,by simp,a,c,hy⟩
    ·obtain ⟨x,g,s,e,hs⟩:=UT d y hy
     exact ⟨x,by simp [g],s,e,hs⟩
   ·cases h
theorem XY {α β:Type} {f g:α->Option (List β)}:∀{l:List α} {r:List β},(∀x∈l,∀s,f x=some s->g x=some s)->TM f l=some r->TM g l=some r
 | [],r,_,h=>h
 | z::l,r,hfg,h=>by
   simp only [TM] at h⊢
   split at h
   ·rename_i a b c d
    rw [hfg z (by simp) a c,XY (fun x e=>hfg x (by simp [e])) d]
    exact h
   ·cases h
theorem Ve {α:Type} {r:Option α} {L:List α} (h:one r=some L):∃x,r=some x/\L=[x]:=by
 cases r with
 | none=>cases h
 | some x=>cases h;exact ⟨x,rfl,rfl⟩
theorem Sw {α:Type} {r:Option (List α)} {x:α} (h:oneOf r=some x):r=some [x]:=by
 unfold oneOf at h
 split at h
 ·cases h;rfl
 ·cases h
def Nne (C a:Tc):Prop:=∀mp lim g as H r,C mp lim g as H=some r->a mp lim g as H=some r
theorem Nne.det {C a:Tc} (h:Nne C a):CLe (det C) (det a):=fun mp lim g as H r b=>by
 unfold AM.det at b⊢
 rw [h _ _ _ _ _ _ (Sw b)]
 rfl
theorem Nnq {C b:Tc} (h:Nne C b) {lim:Nat} {o:AOp} {ρ:Operand->Value} {H:NE} {r} (a:Yt C lim o ρ H=some r):Yt b lim o ρ H=some r:=by
 by_cases hc:∃mp f args,o=.call mp f args
 ·obtain ⟨mp,f,args,rfl⟩:=hc
  simp only [Yt] at a⊢
  split at a
  ·split at a
   ·rename_i L hL
    rw [h _ _ _ _ _ _ hL]
    exact a
   ·cases a
  ·cases a
 ·cases o<;>first | exact a | exact absurd ⟨_,_,_,rfl⟩ hc
theorem Nno {C b:Tc} (h:Nne C b) {lim:Nat} {i:AIns} {ρ:Operand->Value} {H:NE} {r} (a:stepX C lim i ρ H=some r):stepX b lim i ρ H=some r:=by
 obtain ⟨d,g,o,c,m⟩:=i
 unfold stepX at a⊢
 cases c with
 | none=>exact Nnq h a
 | some k=>exact a
theorem Na6 {C c:Tc} (h:Nne C c) {N lim:Nat} {i:AIns} {fr:Nat->Value} {H:NE} {r} (a:ZX C N lim i fr H=some r):ZX c N lim i fr H=some r:=by
 unfold ZX at a⊢
 cases hw:RG N fr i.guard with
 | none=>rw [hw] at a;cases a
 | some b=>
   rw [hw] at a
   cases b with
   | false=>exact a
   | true=>
     simp only at a⊢
     split at a
     ·rename_i L hL
      rw [Nno h hL]
      exact a
     ·cases a
theorem WV {E:Env} {run b:AFunc->Nat->List AItem->(Nat->Value)->NE->Option (List (Value×NE))} (h:∀af lim k fr H r,run af lim k fr H=some r->b af lim k fr H=some r):Nne (QQ E run) (QQ E b):=by
 intro mp lim g as H r a
 unfold QQ at a⊢
 cases g with
 | inr i=>
   simp only at a⊢
   split at a
   ·cases a
   rename_i hm
   rw [Nh hm]
   split at a
   ·split at a
    ·rename_i hc
     rw [Ni hc]
     exact h _ _ _ _ _ _ a
    ·cases a
   ·cases a
 | inl g=>
 simp only at a⊢
 split at a
 ·exact a
 split at a
 ·exact a
 ·split at a
  ·cases a
  ·rename_i af c
   split at a
   ·rename_i hp
    rw [Ni hp]
    split at a
    ·rename_i v H1 l h1
     rw [h _ _ _ _ _ _ h1]
     exact a
    ·cases a
   ·rename_i hp
    rw [Nh hp]
    split at a
    ·cases a
    ·rename_i hm
     rw [Nh hm]
     exact h _ _ _ _ _ _ a
theorem Nhm (E:Env):∀(n:Nat) (af:AFunc) (lim:Nat) (k:List AItem) (fr:Nat->Value) (H:NE) (r),OZ E n af lim k fr H=some r->OZ E (n+1) af lim k fr H=some r
 | 0,_,_,_,_,_,_,h=>by simp [OZ] at h
 | n+1,af,lim,k,fr,H,r,h=>by
   have ih:=Nhm E n
   rw [OZ.eq_def] at h⊢
   simp only at h⊢
   cases k with
   | nil=>exact h
   | cons x k=>
     cases x with
     | inBlock id=>exact ih _ _ _ _ _ _ h
     | inLoop c=>exact ih _ _ _ _ _ _ h
     | begin i=>
       simp only at h⊢
       split at h
       ·split at h
        ·rename_i hc
         rw [Ni hc]
         exact ih _ _ _ _ _ _ h
        ·cases h
       ·cases h
     | round i=>exact h
     | mark i=>exact h
     | ops base l=>
       have e:=WV (E:=E) fun d lim' k' fr' H' r h=>ih d lim' k' fr' H' r h
       cases l with
       | nil=>cases base<;>exact ih _ _ _ _ _ _ h
       | cons i l=>
         cases base with
         | none=>
           simp only at h⊢
           split at h
           ·rename_i L g
            rw [Na6 e g]
            exact XY (fun r _ s hs=>ih _ _ _ _ _ _ hs) h
           ·cases h
         | some b=>
           simp only at h⊢
           split at h
           ·rename_i fr' H' g
            rw [ZY e.det g]
            exact ih _ _ _ _ _ _ h
           ·cases h
     | code c=>
       cases c<;>simp only at h⊢<;> first
        | exact ih _ _ _ _ _ _ h
        | exact h
        | skip
       case cond c a b=>
        cases hc:ev fr c<;>rw [hc] at h<;>first
         | (rename_i b;cases b<;>exact ih _ _ _ _ _ _ h)
         | (cases h;done)
       case exit id=>
        split at h
        ·exact ih _ _ _ _ _ _ h
        ·cases h
       case exitR id=>
        split at h
        ·exact ih _ _ _ _ _ _ h
        ·exact h
       case rangeF f ps a b=>
        split at h
        ·split at h
         ·rename_i L g
          rw [WV (fun d lim' k' fr' H' r h=>ih _ _ _ _ _ _ h) _ _ _ _ _ _ g]
          simp only
          refine XY (fun r _ s hs=>?_) h
          split at hs
          ·rename_i x m
           split at hs
           ·cases hs
           ·rename_i j
            rw [Nh j]
            exact ih _ _ _ _ _ _ hs
          ·cases hs
         ·cases h
        ·cases h
theorem VL (E:Env) {n m:Nat} (h:n<=m) {af:AFunc} {lim:Nat} {k:List AItem} {fr:Nat->Value} {H:NE} {r} (a:OZ E n af lim k fr H=some r):OZ E m af lim k fr H=some r:=by
 induction h with
 | refl=>exact a
 | step _ ih=>exact Nhm E _ _ _ _ _ _ _ ih
theorem Wl (E:Env) {n m:Nat} (h:n<=m):Nne (Rw E n) (Rw E m):=WV fun _ _ _ _ _ _ a=>VL E h a
theorem Ngt (E:Env):∀(l:List AIns) (n:Nat) (af:AFunc) (lim b:Nat) (k:List AItem) (fr:Nat->Value) (H:NE) (r),OZ E n af lim (.ops (some b) l::k) fr H=some r->
  ∃m fr' H',m<n/\YJ (det (Rw E (n-1))) af.ntmps lim (some b) l fr H=some (fr',H')/\OZ E m af lim k fr' H'=some r
 | l,0,af,lim,b,k,fr,H,r,h=>by simp [OZ] at h
 | [],n+1,af,lim,b,k,fr,H,r,h=>by
   rw [OZ.eq_def] at h
   exact ⟨n,fr,H,by omega,rfl,h⟩
 | i::l,n+1,af,lim,b,k,fr,H,r,h=>by
   rw [OZ.eq_def] at h
   simp only at h
   split at h
   ·rename_i fr1 H1 g
    obtain ⟨m,fr',H',h1,h2,e⟩:=Ngt E l n af lim b k fr1 H1 r h
    refine ⟨m,fr',H',by omega, ?_,e⟩
    have a:TA (det (Rw E (n+1-1))) af.ntmps lim (some b) i fr H=some (fr1,H1):=g
    simp only [YJ,a]
    have mono:∀(l:List AIns) (fr:Nat->Value) (H:NE) r,YJ (det (Rw E (n-1))) af.ntmps lim (some b) l fr H=some r->YJ (det (Rw E (n+1-1))) af.ntmps lim (some b) l fr H=some r:=by
     intro l
     induction l with
     | nil=>intro fr H r h;exact h
     | cons i l ih=>
       intro fr H r h
       obtain ⟨f,K,c,d⟩:=Xt h
       simp only [YJ,ZY (Wl E (show n-1<=n+1-1 by omega)).det c]
       exact ih _ _ _ d
    exact mono _ _ _ _ h2
   ·cases h
def Yg (C:Tc) (N lim:Nat):List AIns->(Nat->Value)->NE->Option (List ((Nat->Value)×NE))
 | [],fr,H=>some [(fr,H)]
 | i::l,fr,H=>match ZX C N lim i fr H with
   | some L=>TM (fun r=>Yg C N lim l r.1 r.2) L
   | none=>none
theorem Ne1 {C a:Tc} (h:Nne C a) {N lim:Nat}:∀{l:List AIns} {fr:Nat->Value} {H:NE} {r},Yg C N lim l fr H=some r->Yg a N lim l fr H=some r
 | [],fr,H,r,hx=>hx
 | i::l,fr,H,r,hx=>by
   simp only [Yg] at hx⊢
   split at hx
   ·rename_i L hL
    rw [Na6 h hL]
    exact XY (fun x _ s hs=>Ne1 h hs) hx
   ·cases hx
theorem XX {α β:Type} {f:α->Option (List β)}:∀{l:List α},(∀x∈l,∃s,f x=some s)->∃r,TM f l=some r
 | [],_=>⟨[],rfl⟩
 | x::l,h=>by
   obtain ⟨s,hs⟩:=h x (by simp)
   obtain ⟨r,hr⟩:=XX (f:=f) (l:=l) fun y a=>h y (by simp [a])
   exact ⟨s++r,by simp only [TM,hs,hr]⟩
theorem Nd4 (E:Env):∀(l:List AIns) (n:Nat) (af:AFunc) (lim:Nat) (k:List AItem) (fr:Nat->Value) (H:NE) (R),OZ E n af lim (.ops none l::k) fr H=some R->
  ∃L,Yg (Rw E (n-1)) af.ntmps lim l fr H=some L/\∀r∈L,∃m b,m<n/\OZ E m af lim k r.1 r.2=some b/\∀x∈b,x∈R
 | l,0,af,lim,k,fr,H,R,h=>by simp [OZ] at h
 | [],n+1,af,lim,k,fr,H,R,h=>by
   rw [OZ.eq_def] at h
   refine ⟨[(fr,H)],rfl,fun r hr=>?_⟩
   rw [Nj] at hr
   subst hr
   exact ⟨n,R,by omega,h,fun x j=>j⟩
 | i::l,n+1,af,lim,k,fr,H,R,h=>by
   rw [OZ.eq_def] at h
   simp only at h
   split at h
   case h_2=>cases h
   rename_i L hL
   have d:ZX (Rw E (n+1-1)) af.ntmps lim i fr H=some L:=hL
   have each:∀r∈L,∃a,Yg (Rw E (n+1-1)) af.ntmps lim l r.1 r.2=some a/\∀q∈a,∃m b,m<n+1/\OZ E m af lim k q.1 q.2=some b/\∀x∈b,x∈R:=fun r hr=>by
    obtain ⟨s,hs,c⟩:=UR h r hr
    obtain ⟨a,h1,h2⟩:=Nd4 E l n af lim k r.1 r.2 s hs
    refine ⟨a,Ne1 (Wl E (by omega)) h1,fun q e=>?_⟩
    obtain ⟨m,b,u,p,t⟩:=h2 q e
    exact ⟨m,b,by omega,p,fun x j=>c x (t x j)⟩
   obtain ⟨Q,o⟩:=XX (f:=fun r:(Nat->Value)×NE=>Yg (Rw E (n+1-1)) af.ntmps lim l r.1 r.2) (l:=L) fun r hr=>by
    obtain ⟨a,h1,_⟩:=each r hr
    exact ⟨a,h1⟩
   refine ⟨Q,by simp only [Yg,d,o],fun q e=>?_⟩
   obtain ⟨r,hr,s,hs,g⟩:=UT o q e
   obtain ⟨a,h1,h2⟩:=each r hr
   rw [h1] at hs
   cases hs
   exact h2 q g
theorem Nip {α β:Type} {f:α->Option β} {l:List α} {r:List β} (h:Y5 f l=some r) (hl:l≠[]):r≠[]:=by
 cases l with
 | nil=>exact absurd rfl hl
 | cons x l=>
   obtain ⟨y,a,_⟩:=Y4 h x (by simp)
   intro e;rw [e] at a;cases a
theorem Nms {α β:Type} {f:α->Option (List β)} {l:List α} {r:List β} (h:TM f l=some r) (hl:l≠[]) (b:∀x∈l,∀s,f x=some s->s≠[]):r≠[]:=by
 cases l with
 | nil=>exact absurd rfl hl
 | cons x l=>
   obtain ⟨s,hs,a⟩:=UR h x (by simp)
   obtain ⟨y,c⟩:=Q5 _ (b x (by simp) s hs)
   intro e;have:=a y c;rw [e] at this;cases this
theorem N3u {C:Tc} (d:∀mp lim g as H L,C mp lim g as H=some L->L≠[]) {N lim:Nat} {i:AIns} {fr:Nat->Value} {H:NE} {L} (h:ZX C N lim i fr H=some L):L≠[]:=by
 have b:∀{α:Type} {r:Option α} {L:List α},r.map (fun r=>[r])=some L->L≠[]:=fun {α r L} h=>by
  simp only [Nc] at h
  obtain ⟨p,_,rfl⟩:=h
  simp
 unfold ZX at h
 split at h
 ·cases h
 ·simp only [Nc] at h;obtain ⟨_,_,rfl⟩:=h;simp
 ·split at h
  case h_2=>cases h
  rename_i L0 a
  refine Nip h ?_
  unfold stepX at a
  split at a
  ·unfold Yt at a
   split at a
   ·split at a
    case h_2=>cases a
    split at a
    case h_2=>cases a
    rename_i e c
    exact Nip a (d _ _ _ _ _ _ c)
   ·exact b a
  unfold Ndg at a
  split at a
  ·exact b a
  ·unfold ZG at a
   repeat' (split at a)
   all_goals first
    | (cases a;done)
    | (cases a;simp;done)
    | exact Nip a (by simp)
  ·exact b a
  ·cases a
theorem Nca {E:Env} {run:AFunc->Nat->List AItem->(Nat->Value)->NE->Option (List (Value×NE))} (h:∀af lim k fr H L,run af lim k fr H=some L->L≠[]):∀mp lim g as H L,QQ E run mp lim g as H=some L->L≠[]:=by
 intro mp lim g as H L a
 unfold QQ at a
 cases g with
 | inr i=>
   simp only at a
   repeat' (split at a)
   all_goals first | (cases a;done) | exact h _ _ _ _ _ _ a
 | inl g=>
   simp only at a
   repeat' (split at a)
   all_goals first | (cases a;done) | (cases a;simp;done) | exact h _ _ _ _ _ _ a
theorem Zq (E:Env):∀(n:Nat) (af:AFunc) (lim:Nat) (k:List AItem) (fr:Nat->Value) (H:NE) (L),OZ E n af lim k fr H=some L->L≠[]
 | 0,_,_,_,_,_,_,h=>by simp [OZ] at h
 | n+1,af,lim,k,fr,H,L,h=>by
   have ih:=Zq E n
   have e:=Nca (E:=E) ih
   have d:∀{r:Option (Value×NE)},one r=some L->L≠[]:=fun h=>by obtain ⟨x,_,rfl⟩:=Ve h;simp
   rw [OZ.eq_def] at h
   simp only at h
   cases k with
   | nil=>exact d h
   | cons x k=>
     cases x with
     | inBlock id=>exact ih _ _ _ _ _ _ h
     | inLoop c=>exact ih _ _ _ _ _ _ h
     | begin i=>
       simp only at h
       split at h
       ·split at h
        ·exact ih _ _ _ _ _ _ h
        ·cases h
       ·cases h
     | round i=>
       simp only at h
       split at h
       ·exact d h
       ·cases h
     | mark i=>simp at h
     | ops base l=>
       cases l with
       | nil=>cases base<;>exact ih _ _ _ _ _ _ h
       | cons i l=>
         cases base with
         | none=>
           simp only at h
           split at h
           ·rename_i L0 g
            exact Nms h (N3u e g) fun r _ s hs=>ih _ _ _ _ _ _ hs
           ·cases h
         | some b=>
           simp only at h
           split at h
           ·exact ih _ _ _ _ _ _ h
           ·cases h
     | code c=>
       cases c<;>simp only at h<;>first
        | exact ih _ _ _ _ _ _ h
        | exact d h
        | skip
       case cond c a b=>
        cases hc:ev fr c<;>rw [hc] at h<;>first
         | (rename_i b;cases b<;>exact ih _ _ _ _ _ _ h)
         | (cases h;done)
       case exit id=>
        split at h
        ·exact ih _ _ _ _ _ _ h
        ·cases h
       case retM=>
        split at h
        ·exact d h
        ·cases h
       case retR=>
        split at h
        ·split at h
         ·exact d h
         ·cases h
        ·cases h
       case exitR id=>
        split at h
        ·exact ih _ _ _ _ _ _ h
        ·split at h
         ·split at h
          ·exact d h
          ·cases h
         ·cases h
       case rangeF f ps a b=>
        split at h
        ·split at h
         ·rename_i L0 g
          refine Nms h (e _ _ _ _ _ _ g) fun r _ s hs=>?_
          split at hs
          ·split at hs
           ·cases hs
           ·exact ih _ _ _ _ _ _ hs
          ·cases hs
         ·cases h
        ·cases h
theorem N1w (E:Env) {n:Nat} {mp:Bool} {lim:Nat} {g:FuncId ⊕ Nat} {as:List Value} {H:NE} {L} (h:Rw E n mp lim g as H=some L):L≠[]:=Nca (Zq E n) _ _ _ _ _ _ h
theorem Nhw {lim:Nat} {H H':NE} {a:Addr} {vs:List Value} (h:storeAt lim H a vs=some H'):H.length<=H'.length:=by rw [Un h];exact Nd _
theorem VP {dest:Option Nat} {b:Blk} {H:NE}:H.length<=(place dest b H).2.length:=by
 cases dest<;>simp [place]
theorem Nho {o:AOp} (hL:isL o=false) {lim:Nat} {dest:Option Nat} {ρ:Operand->Value} {H H':NE} {v:Value} (hn:kind o≠.n) (h:NJ lim dest o ρ H=some (v,H')):H.length<=H'.length:=by
 cases hk:kind o with
 | n=>exact absurd hk hn
 | p=>rw [(Nz4 hk h).1];exact Nd _
 | r=>
   by_cases hc:∃mp f args,o=.call mp f args
   ·obtain ⟨mp,f,args,rfl⟩:=hc;simp [NJ] at h
   ·rw [Y8 hk (fun mp f args e=>hc ⟨mp,f,args,e⟩) h];exact Nd _
 | c=>
   cases o<;>simp [kind] at hk
   simp [NJ] at h
 | a=>
   cases o<;>simp [kind] at hk<;>simp only [NJ] at h
   case alloc=>cases h;exact VP
   case box=>
    split at h
    case isFalse=>cases h
    cases h;exact VP
   case buildSlice=>
    split at h
    case h_2=>cases h
    cases h;exact VP
   case makeSlice=>
    split at h
    case h_2=>cases h
    split at h
    case isFalse=>cases h
    cases h;exact VP
   case growNil=>
    split at h
    case h_2=>cases h
    split at h
    case isFalse=>cases h
    cases h;exact VP
   case makeMap=>
    split at h
    case h_2=>cases h
    cases h;exact VP
   case call mp f args=>split at hk<;>cases hk
 | s=>
   have hs:=Vh hk
   cases o<;>simp [Yk] at hs
   have h':=WJ h
   simp only [Zy] at h'
   rw [Y7 (o:=.store _ _ _) rfl rfl h'];exact Nd _
 | w=>
   cases hm:makes o with
   | false=>rw [Y7 hk hm h];exact Nd _
   | true=>
     cases dest with
     | some d=>rw [XJ hk h];exact Nd _
     | none=>
       have b:∃esz bytes str s x,o=.append esz bytes str s x:=by
        cases o<;>simp [makes,kind] at hm<;>(try (simp [kind] at hk;done))
        case append=>exact ⟨_,_,_,_,_,rfl⟩
        case appendL=>simp [isL] at hL
        all_goals (exfalso;simp [kind] at hk;try (split at hk<;>cases hk))
       obtain ⟨esz,bytes,str,s,x,rfl⟩:=b
       simp only [NJ] at h
       unfold OT at h
       split at h
       case h_2=>cases h
       split at h
       ·cases h
       split at h
       ·cases h;exact Nd _
       split at h
       ·split at h
        ·cases h;simp [place]
        ·cases h
       ·split at h
        ·cases h
        split at h
        ·split at h
         ·split at h
          ·cases h;simp [place]
          ·cases h
         ·cases h
        ·split at h
         ·split at h
          ·split at h
           ·rename_i h1;cases h;exact Nhw h1
           ·cases h
          ·cases h;simp [place]
         ·cases h
theorem Nm0 {o:AOp} {lim:Nat} {dest:Option Nat} {ρ:Operand->Value} {H H':NE} {v:Value} (hn:kind o≠.n) (h:NJ lim dest o ρ H=some (v,H')):H.length<=H'.length:=by
 cases hL:isL o with
 | false=>exact Nho hL hn h
 | true=>obtain ⟨_,_,h1,h2,_⟩:=Ncy hL;exact Nho h1 (by rw [h2];simp) (WJ h)
theorem Nr4 {o:AOp} {lim:Nat} {dest:Option Nat} {ρ:Operand->Value} {H H':NE} {v:Value} (h:NJ lim dest o ρ H=some (v,H')):H.length<=H'.length:=by
 by_cases hn:kind o=.n
 ·cases o<;>(try (simp [kind] at hn;done))
  ·exact Nm0 (by simp [Zy,kind]) (WJ h)
  ·rename_i mp f as'
   cases mp<;>simp [kind,CM.isPure] at hn
 ·exact Nm0 hn h
def Nfy (C:TP):Prop:=∀mp lim g as H v H',C mp lim g as H=some (v,H')->lim<=H.length->H.length<=H'.length/\Grow lim H H'
theorem Nbm {C:TP} (j:Nfy C) {lim:Nat} {dest:Option Nat} {o:AOp} {ρ:Operand->Value} {H H':NE} {v:Value} (h:Ry C lim dest o ρ H=some (v,H')) (hd:∀d,dest=some d->lim<=d) (hl:lim<=H.length) :
  H.length<=H'.length/\Grow lim H H':=by
 by_cases hc:∃mp f args,o=.call mp f args
 ·obtain ⟨mp,f,args,rfl⟩:=hc
  simp only [Ry] at h
  split at h
  ·obtain ⟨a,b⟩:=CM.lim_le mp hl
   obtain ⟨g,i⟩:=j _ _ _ _ _ _ _ (SG h).1 b
   exact ⟨g,i.weaken a⟩
  ·cases h
 ·have c:∀mp f args,o≠.call mp f args:=fun mp f args e=>hc ⟨mp,f,args,e⟩
  rw [OQ c] at h
  exact ⟨Nr4 h,Nfm h hd hl⟩
theorem Njv {lim base:Nat} {l:List Nat} {H X:NE} (k:lim<=base) (h:Grow lim (OD base l H) X):Grow lim H (NY base l H X):=⟨fun j b c g=>by
 by_cases d:∃i∈l,base+i=j
 ·have f:j<X.length:=by
   have:=(List.getElem?_eq_some_iff.1 c).1
   rw [PH] at this;exact this
  rw [RV base H l X d f] at c
  simp only [Option.some.injEq] at c
  exact .inl (RD c g)
 ·have a:∀i∈l,base+i≠j:=fun i hi e=>d ⟨i,hi,e⟩
  rw [Rx base H l X a] at c
  rcases h j b c g with h1 | h1
  ·rw [QP base l H a] at h1;exact .inl h1
  ·exact .inr h1,fun j d=>by
 have a:∀i∈l,base+i≠j:=fun i hi e=>by omega
 rw [Rx base H l X a,h.keep j d,QP base l H a]⟩
theorem Nel {C:TP} (c:Nfy C) {N lim:Nat} {base:Option Nat} {i:AIns} {fr fr':Nat->Value} {H H':NE} (h:TA C N lim base i fr H=some (fr',H')) (g:∀b,base=some b->lim<=b) (hl:lim<=H.length) :
  H.length<=H'.length/\Grow lim H H':=by
 unfold TA at h
 cases hv:SF C N lim base i fr H with
 | none=>rw [hv] at h;cases h
 | some p=>
   obtain ⟨v,K⟩:=p
   rw [hv] at h
   simp only [Nc,Prod.mk.injEq] at h
   obtain ⟨f,k,rfl,rfl⟩:=h
   unfold SF at hv
   cases hw:RG N fr i.guard with
   | none=>rw [hw] at hv;cases hv
   | some b=>
     rw [hw] at hv
     cases b with
     | false=>cases hv;exact ⟨Nd _,Grow.refl _ _⟩
     | true=>
       cases base with
       | none=>exact Nbm c hv (fun d e=>by cases e) hl
       | some b=>
         simp only at hv
         cases hs:Ry C lim (i.dest.map (b+·)) i.op (ev fr) (OD b i.mask H) with
         | none=>rw [hs] at hv;cases hv
         | some q=>
           obtain ⟨l,X⟩:=q
           rw [hs] at hv
           cases hv
           obtain ⟨a,j⟩:=Nbm c hs (fun d e=>by
            simp only [Nc] at e
            obtain ⟨r,_,rfl⟩:=e
            have:=g b rfl
            omega) (by rw [OX];exact hl)
           exact ⟨by rw [PH];rw [OX] at a;exact a,Njv (g b rfl) j⟩
theorem Ndo {lim i:Nat} {H:NE} {b:Blk} (h:lim<=i) (ho:owned b=true):H.length<=(H.set i b).length/\Grow lim H (H.set i b):=⟨by simp,Grow.set h fun _=>ho⟩
theorem Ngm {lim:Nat}:∀{l:List Nat} {H H':NE},shut lim l H=some H'->H.length<=H'.length/\Grow lim H H'
 | [],H,H',h=>by cases h;exact ⟨Nd _,Grow.refl _ _⟩
 | i::l,H,H',h=>by
   simp only [shut] at h
   split at h
   ·split at h
    ·rename_i hl
     obtain ⟨h1,h2⟩:=Ngm h
     exact ⟨by simpa using h1,(Grow.set (b:=.dead) hl fun h=>by simp [alive] at h).trans h2⟩
    ·cases h
   ·cases h
theorem Nf7 {lim i:Nat} {j:Option ACode} {H H':NE} {v:Value} (hl:lim<=i) (h:endRound i j H=some (v,H')):H.length<=H'.length/\Grow lim H H':=by
 unfold endRound at h
 split at h
 ·cases h;exact Ndo hl rfl
 ·cases h
def TK (C:Tc):Prop:=∀mp lim g as H L,C mp lim g as H=some L->lim<=H.length->∀r∈L,H.length<=r.2.length/\Grow lim H r.2
theorem TK.det {C:Tc} (h:TK C):Nfy (AM.det C):=fun mp lim g as H v H' a hl=>h _ _ _ _ _ _ (Sw a) hl (v,H') (by simp)
theorem Nqo {lim:Nat} {v:Value} {H:NE} {L} (h:ZG lim v H=some L):∀r∈L,H.length<=r.2.length/\Grow lim H r.2:=fun r hr=>by
 unfold ZG at h
 split at h
 case h_2=>cases h
 split at h
 case h_2=>cases h
 split at h
 case isFalse=>cases h
 rename_i hl
 split at h
 case h_2=>cases h
 split at h
 case isFalse=>cases h
 split at h
 ·cases h
  rw [Nj] at hr
  subst hr
  exact ⟨Nd _,Grow.refl _ _⟩
 ·obtain ⟨j,_,a⟩:=Zg h r hr
  split at a
  ·split at a
   ·cases a;exact ⟨by simp,Grow.set hl fun _=>rfl⟩
   ·cases a
  ·cases a
theorem Nnr {C:Tc} (j:TK C) {lim:Nat} {o:AOp} {ρ:Operand->Value} {H:NE} {L} (h:Yt C lim o ρ H=some L) (hl:lim<=H.length):∀r∈L,H.length<=r.2.length/\Grow lim H r.2:=fun r hr=>by
 by_cases hc:∃mp f args,o=.call mp f args
 ·obtain ⟨mp,f,args,rfl⟩:=hc
  simp only [Yt] at h
  split at h
  case h_2=>cases h
  split at h
  case h_2=>cases h
  rename_i L0 a
  obtain ⟨x,k,e⟩:=Zg h r hr
  obtain ⟨b,c⟩:=CM.lim_le mp hl
  have:=(SG e).1
  cases this
  obtain ⟨g,i⟩:=j _ _ _ _ _ _ a c r k
  exact ⟨g,i.weaken b⟩
 ·have plain:∀{v:Value} {H':NE},(NJ lim none o ρ H).map (fun r=>[r])=some L->r=(v,H')->H.length<=H'.length/\Grow lim H H':=fun {v H'} h e=>by
   simp only [Nc] at h
   obtain ⟨p,hp,rfl⟩:=h
   rw [Nj] at hr
   subst hr
   cases e
   exact ⟨Nr4 hp,Nfm hp (fun d e=>by cases e) hl⟩
  cases o<;>first
   | exact absurd ⟨_,_,_,rfl⟩ hc
   | exact plain h rfl
theorem Nnp {C:Tc} (c:TK C) {lim:Nat} {i:AIns} {ρ:Operand->Value} {H:NE} {L} (h:stepX C lim i ρ H=some L) (hl:lim<=H.length):∀r∈L,H.length<=r.2.length/\Grow lim H r.2:=fun r hr=>by
 unfold stepX at h
 split at h
 ·exact Nnr c h hl r hr
 unfold Ndg at h
 split at h
 ·simp only [Nc] at h
  obtain ⟨p,hp,rfl⟩:=h
  rw [Nj] at hr
  subst hr
  unfold Ux at hp
  split at hp
  ·cases hp;exact ⟨by simp,Grow.app hl fun b a _=>by simp at a;subst a;rfl⟩
  ·cases hp
 ·exact Nqo h r hr
 ·simp only [Nc] at h
  obtain ⟨p,hp,rfl⟩:=h
  rw [Nj] at hr
  subst hr
  unfold YN at hp
  repeat' (split at hp)
  all_goals first
   | (cases hp;done)
   | (cases hp;exact ⟨Nd _,Grow.refl _ _⟩)
 ·cases h
theorem Nuh {C:Tc} (c:TK C) {N lim:Nat} {i:AIns} {fr:Nat->Value} {H:NE} {L} (h:ZX C N lim i fr H=some L) (hl:lim<=H.length):∀r∈L,H.length<=r.2.length/\Grow lim H r.2:=fun r hr=>by
 unfold ZX at h
 cases hw:RG N fr i.guard with
 | none=>rw [hw] at h;cases h
 | some b=>
   rw [hw] at h
   cases b with
   | false=>
     simp only [Nc] at h
     obtain ⟨f,_,rfl⟩:=h
     rw [Nj] at hr
     subst hr
     exact ⟨Nd _,Grow.refl _ _⟩
   | true=>
     simp only at h
     split at h
     case h_2=>cases h
     rename_i L0 a
     obtain ⟨x,d,e⟩:=Zg h r hr
     simp only [Nc] at e
     obtain ⟨f,_,rfl⟩:=e
     exact Nnp c a hl x d
theorem Nul {lim:Nat} {H:NE} {X:List (List Value)} (hl:lim<=H.length):Grow lim H (H++news X):=⟨fun j b a d=>by
 rcases Oh j H.length with h | h
 ·rw [N6 h] at a;exact .inl a
 ·rw [Ob h] at a
  unfold news at a
  rw [O2] at a
  simp only [Nc] at a
  obtain ⟨c,_,rfl⟩:=a
  exact .inr ⟨rfl,by omega⟩,fun j e=>by rw [N6 (by omega)]⟩
theorem ZF {E:Env} {run:AFunc->Nat->List AItem->(Nat->Value)->NE->Option (List (Value×NE))}
  (h:∀af lim k fr H L,(∀x∈k,∀b l,x≠.ops (some b) l)->run af lim k fr H=some L->lim<=H.length->∀r∈L,H.length<=r.2.length/\Grow lim H r.2):TK (QQ E run):=by
 intro mp lim g as H L a hl r hr
 unfold QQ at a
 have keep:∀{v:Value},some [(v,H)]=some L->H.length<=r.2.length/\Grow lim H r.2:=fun {v} e=>by
  cases e
  rw [Nj] at hr
  subst hr
  exact ⟨Nd _,Grow.refl _ _⟩
 cases g with
 | inr i=>
   simp only at a
   split at a
   ·cases a
   split at a
   ·split at a
    ·exact h _ _ _ _ _ _ (fun x a b l e=>by simp at a;rcases a with rfl | rfl | rfl | rfl<;>cases e) a hl r hr
    ·cases a
   ·cases a
 | inl g=>
 simp only at a
 split at a
 ·split at a
  ·exact keep a
  ·cases a
 split at a
 ·split at a
  ·cases a
  ·cases a
   rw [Nj] at hr
   subst hr
   exact ⟨by simp,Nul hl⟩
 ·split at a
  ·cases a
  ·split at a
   ·split at a
    ·split at a
     ·split at a
      ·exact keep a
      ·cases a
     ·cases a
    ·cases a
   ·split at a
    ·cases a
    ·exact h _ _ _ _ _ _ (fun x a b l e=>by simp at a;subst a;cases e) a hl r hr
theorem Zr {id:Nat}:∀{k k':List AItem} {a:AItem->Prop},RA id k=some k'->(∀x∈k,a x)->∀x∈k',a x
 | [],_,_,h,_=>by simp [RA] at h
 | y::k,k',a,h,hp=>by
   have hk:∀x∈k,a x:=fun x b=>hp x (Nk _ b)
   cases y<;>simp only [RA] at h
   case inBlock c=>
    split at h
    ·cases h;exact hk
    ·exact Zr h hk
   all_goals exact Zr h hk
theorem Nhn (E:Env):∀(n:Nat) (af:AFunc) (lim:Nat) (k:List AItem) (fr:Nat->Value) (H:NE) (L:List (Value×NE)),(∀x∈k,∀b l,x=.ops (some b) l->lim<=b)->OZ E n af lim k fr H=some L->lim<=H.length->
  ∀r∈L,H.length<=r.2.length/\Grow lim H r.2
 | 0,_,_,_,_,_,_,_,h,_,_,_=>by simp [OZ] at h
 | n+1,af,lim,k,fr,H,L,hk,h,hl,r,hr=>by
   have ih:=Nhn E n
   rw [OZ.eq_def] at h
   simp only at h
   have C:one ((result fr H af.results).map (·,H))=some L->H.length<=r.2.length/\Grow lim H r.2:=fun h=>by
    obtain ⟨x,h',rfl⟩:=Ve h
    rw [Nj] at hr
    subst hr
    simp only [Nc] at h'
    obtain ⟨_,_,rfl⟩:=h'
    exact ⟨Nd _,Grow.refl _ _⟩
   have o:∀{i:Nat} {j:Option ACode},lim<=i->one (endRound i j H)=some L->H.length<=r.2.length/\Grow lim H r.2:=fun {i j} I h=>by
    obtain ⟨x,h',rfl⟩:=Ve h
    rw [Nj] at hr
    subst hr
    exact Nf7 I h'
   have w:TK (QQ E (OZ E n)):=ZF fun N lim' k' fr' H0 L0 F P G=>ih _ _ _ _ _ _ (fun x d b l e=>absurd e (F x d b l)) P G
   cases k with
   | nil=>exact C h
   | cons x k=>
     have g:∀x∈k,∀b l,x=.ops (some b) l->lim<=b:=fun x d=>hk x (Nk _ d)
     have add:∀{c:AItem},(∀b l,c≠.ops (some b) l)->∀x∈c::k,∀b l,x=.ops (some b) l->lim<=b:=fun {c} hc x d b l e=>by
      rcases Np.1 d with h | h
      ·subst h;exact absurd e (hc b l)
      ·exact g x h b l e
     cases x with
     | inBlock id=>exact ih _ _ _ _ _ _ g h hl r hr
     | begin i=>
       simp only at h
       split at h
       ·split at h
        ·rename_i hc
         obtain ⟨u,p⟩:=Ndo (H:=H) (b:=.loop { ‹LoopB› with st:=1 }) hc.2 rfl
         obtain ⟨B,v⟩:=ih _ _ _ _ _ _ g h (by simpa using hl) r hr
         exact ⟨by simpa using B,p.trans v⟩
        ·cases h
       ·cases h
     | round i=>
       simp only at h
       split at h
       ·exact o ‹_› h
       ·cases h
     | mark i=>simp at h
     | inLoop c=>
       refine ih _ _ _ _ _ _ (fun x d b l e=>?_) h hl r hr
       rcases Np.1 d with h | h
       ·subst h;cases e
       ·exact add (c:=.inLoop c) (by simp) x h b l e
     | ops base l=>
       cases l with
       | nil=>cases base<;>exact ih _ _ _ _ _ _ g h hl r hr
       | cons i l=>
         cases base with
         | none=>
           simp only at h
           split at h
           ·rename_i L0 d
            obtain ⟨x,K,s,hs,A⟩:=UT h r hr
            obtain ⟨u,p⟩:=Nuh w d hl x K
            obtain ⟨B,v⟩:=ih _ _ _ _ _ _ (add (c:=.ops none l) (by simp)) hs (by omega) r A
            exact ⟨by omega,p.trans v⟩
           ·cases h
         | some O=>
           simp only at h
           split at h
           ·rename_i fr' H1 d
            obtain ⟨u,p⟩:=Nel w.det d (fun b e=>hk _ No b (i::l) (by cases e;rfl)) hl
            obtain ⟨B,v⟩:=ih _ _ _ _ _ _ (fun x d b M e=>by
             rcases Np.1 d with h | h
             ·subst h;cases e;exact hk _ No O (i::l) rfl
             ·exact g x h b M e) h (by omega) r hr
            exact ⟨by omega,p.trans v⟩
           ·cases h
     | code c=>
       cases c<;>simp only at h
       case skip=>exact ih _ _ _ _ _ _ g h hl r hr
       case ops l=>exact ih _ _ _ _ _ _ (add (c:=.ops none l) (by simp)) h hl r hr
       case drawn m l=>
        obtain ⟨u,p⟩:=ih _ _ _ _ _ _ (fun x d b M e=>by
         rcases Np.1 d with h | h
         ·subst h;cases e;exact hl
         ·exact g x h b M e) h (by simp;omega) r hr
        exact ⟨by simp at u;omega,(Grow.dead hl m).trans p⟩
       case seq a b=>
        refine ih _ _ _ _ _ _ (fun x d b' l e=>?_) h hl r hr
        rcases Np.1 d with h | h
        ·subst h;cases e
        ·exact add (c:=.code b) (by simp) x h b' l e
       case cond c a b=>
        cases hc:ev fr c<;>rw [hc] at h<;>first
         | (rename_i t;cases t<;>exact ih _ _ _ _ _ _ (add (by simp)) h hl r hr)
         | (cases h;done)
       case block id b=>
        refine ih _ _ _ _ _ _ (fun x d b' l e=>?_) h hl r hr
        rcases Np.1 d with h | h
        ·subst h;cases e
        ·exact add (c:=.inBlock id) (by simp) x h b' l e
       case loop b=>
        refine ih _ _ _ _ _ _ (fun x d b' l e=>?_) h hl r hr
        rcases Np.1 d with h | h
        ·subst h;cases e
        ·exact add (c:=.inLoop b) (by simp) x h b' l e
       case exit id=>
        split at h
        ·rename_i k' z
         exact ih _ _ _ _ _ _ (Zr z g) h hl r hr
        ·cases h
       case ret=>exact C h
       case retM=>
        split at h
        ·rename_i H1 J
         obtain ⟨u,p⟩:=Ngm (lim:=lim) J
         obtain ⟨x,h',rfl⟩:=Ve h
         rw [Nj] at hr
         subst hr
         simp only [Nc] at h'
         obtain ⟨_,_,rfl⟩:=h'
         exact ⟨u,p⟩
        ·cases h
       case retR=>
        split at h
        ·split at h
         ·exact o ‹_› h
         ·cases h
        ·cases h
       case exitR id=>
        split at h
        ·rename_i k' z
         exact ih _ _ _ _ _ _ (Zr z g) h hl r hr
        ·split at h
         ·split at h
          ·exact o ‹_› h
          ·cases h
         ·cases h
       case rangeF f ps a b=>
        split at h
        ·split at h
         ·rename_i L0 d
          obtain ⟨q,Q,s,hs,A⟩:=UT h r hr
          obtain ⟨u,p⟩:=w _ _ _ _ _ _ d (by simp;omega) q Q
          simp at u
          split at hs
          ·rename_i x D
           split at hs
           ·cases hs
           ·obtain ⟨B,v⟩:=ih _ _ _ _ _ _ (fun y hy b l e=>by
             rcases Ol.1 hy with hy | hy
             ·cases hp:x.pend<;>rw [hp] at hy<;>simp at hy
              subst hy;cases e
             ·rcases Ol.1 hy with hy | hy
              ·exact g y hy b l e
              ·simp at hy;subst hy;cases e) hs (by simp;omega) r A
            simp at B
            exact ⟨by omega,(Grow.app hl fun b D _=>by simp at D;rcases D with rfl | rfl<;>rfl).trans (p.trans ((Grow.set (b:=.dead) (by omega) fun h=>by simp [alive] at h).trans v))⟩
          ·cases hs
         ·cases h
        ·cases h
open Go.RowKit
structure CallOkS (Pg:Prg) (C:Tc):Prop where
 fn:∀mp lim g as H L,C mp lim (.inl g) as H=some L->∃fn,Pg.P.funcs[g]? = some fn/\fn.body.isSome=true/\(fn.name == "runtime.NumGoroutine")=false
 calls:∀mp lim g as H L,C mp lim (.inl g) as H=some L->lim<=H.length->∀W σ w as',Inv Pg W lim σ H w->OJ σ as as'->Calls Pg.P g as'.toArray w fun e w'=>∃r∈L,Td Pg W lim σ H r.1 r.2 w e w'
 rounds:∀mp lim i as H L,C mp lim (.inr i) as H=some L->lim<=H.length->∀W σ w as' L0,Inv Pg W lim σ H w->OJ σ as as'->σ i=some L0->
  ∃r,w.heap[L0.blk]? = some (.loop r)/\as'.toArray.size=r.params.size/\RoundIn Fence.wide 0 Pg.P L0.blk r.fn (Tf r as'.toArray) r.assign r.body w fun e w'=>∃x∈L,Td Pg W lim σ H x.1 x.2 w e w'
 grow:TK C
 pure:∀lim g as H L,C true lim g as H=some L->∀r∈L,r.2=H
theorem CallOkS.det {Pg:Prg} {C:Tc} (h:CallOkS Pg C):CallOk Pg (AM.det C) where
 pure lim g as H v H' hx:=h.pure _ _ _ _ _ (Sw hx) (v,H') (by simp)
 len mp lim g as H v H' hx hl:=(h.grow _ _ _ _ _ _ (Sw hx) hl (v,H') (by simp)).1
 keep mp lim g as H v H' hx hl:=(h.grow _ _ _ _ _ _ (Sw hx) hl (v,H') (by simp)).2.keep
 fn mp lim g as H v H' hx:=h.fn _ _ _ _ _ _ (Sw hx)
 calls mp lim g as H v H' hx hl W σ w as' hinv ha:=(h.calls _ _ _ _ _ _ (Sw hx) hl W σ w as' hinv ha).mono fun e w' hp=>by
  obtain ⟨r,hr,hp⟩:=hp
  rw [Nj] at hr
  subst hr
  exact hp
 rounds mp lim i as H v H' hx hl W σ w as' L hinv ha hL:=by
  obtain ⟨r,h1,h2,a⟩:=h.rounds _ _ _ _ _ _ (Sw hx) hl W σ w as' L hinv ha hL
  exact ⟨r,h1,h2,a.mono fun e w' hp=>by
   obtain ⟨x,hx,hp⟩:=hp
   rw [Nj] at hx
   subst hx
   exact hp⟩
 grow mp lim g as H v H' hx hl:=(h.grow _ _ _ _ _ _ (Sw hx) hl (v,H') (by simp)).2
theorem Nmq (Pg:Prg):CallOk Pg fun _ _ _ _ _=>none where
 pure:=fun _ _ _ _ _ _ h=>by cases h
 len:=fun _ _ _ _ _ _ _ h=>by cases h
 keep:=fun _ _ _ _ _ _ _ h=>by cases h
 fn:=fun _ _ _ _ _ _ _ h=>by cases h
 calls:=fun _ _ _ _ _ _ _ h=>by cases h
 rounds:=fun _ _ _ _ _ _ _ h=>by cases h
 grow:=fun _ _ _ _ _ _ _ h=>by cases h
section
variable {P:Program} {pf pureF:FuncId->Bool} {C:Tc} {W:Nat->Prop} {lim:Nat} {σ:PK} {H H':NE} {w:World} {ds:List Deferred} {ro:Option Nat}
theorem Nys {r o n:Nat} {seen:List Nat} {ty:TypeId} {ents:Array MapEntry} (hr:w.heap[r]? = some (.mapIter (some o) n seen.toArray n)) (p:w.heap[o]? = some (.map ents n)) (g:∀(j:Nat) e,ents[j]? = some e->e.born=j) (B:ents.size=n) :
  (SY n seen=[]/\(Instr.next (.pointer (some ⟨r,0,none⟩)) false ty).run P w=.ok (.tuple #[.bool false]) w)\/
  ∃j∈SY n seen,∃e,ents[j]? = some e/\∃c,(c=w\/c=w.drew)/\(Instr.next (.pointer (some ⟨r,0,none⟩)) false ty).run P w=.ok (.tuple #[.bool true,e.key,e.val]) (c.putObj r (.mapIter (some o) n (seen++[j]).toArray n)):=by
 have f:∀x∈ents.toList,x.born<n:=fun x a=>by
  obtain ⟨j,d,rfl⟩:=List.mem_iff_getElem.1 a
  have:=g j ents[j] (by simp)
  simp at d
  simp
  omega
 simp only [Instr.next,getObj,Sem.run_bind,Sem.run,hr,p,Result.andThen,next_test_false seen.toArray ents n n f (Nd _),Nx,if_false]
 have b:∀x∈(Array.filter (fun e=>!seen.toArray.contains e.born) ents).toList,x.born<n:=fun x a=>f x (by simp at a⊢;exact a.1)
 have i:∀x∈(Array.filter (fun e=>!seen.toArray.contains e.born) ents).toList,x.born∈SY n seen/\ents[x.born]? = some x:=fun x a=>by
  simp at a
  obtain ⟨j,d,rfl⟩:=Array.mem_iff_getElem.1 a.1
  have p:=g j ents[j] (by simp)
  rw [p]
  refine ⟨?_,by simp⟩
  unfold SY
  rw [O0,List.mem_range]
  exact ⟨by omega,by have:=a.2;rw [p] at this;simpa using this⟩
 have k:SY n seen≠[]->(Array.filter (fun e=>!seen.toArray.contains e.born) ents)≠#[]:=fun h e=>by
  obtain ⟨j,d⟩:=Q5 _ h
  unfold SY at d
  rw [O0,List.mem_range] at d
  have s:j<ents.size:=by omega
  have hm:ents[j]∈Array.filter (fun e=>!seen.toArray.contains e.born) ents:=by
   rw [Array.mem_filter]
   refine ⟨Array.getElem_mem s, ?_⟩
   rw [g j ents[j] (by simp)]
   simpa using d.2
  rw [e] at hm
  simp at hm
 generalize Array.filter (fun e=>!seen.toArray.contains e.born) ents=L at b i k⊢
 have e1:L.filter (fun x=>decide (x.born<n))=L:=Array.filter_eq_self.2 (fun x a=>by simpa using b x (by simpa using a))
 have e2:L.filter (fun x=>decide (x.born>=n))=#[]:=by
  rw [Array.filter_eq_empty_iff]
  intro x a
  have:=b x (by simpa using a)
  simp
  omega
 simp only [e1,e2,Array.append_empty]
 by_cases v:L.size=0
 ·left
  have:L=#[]:=Array.eq_empty_of_size_eq_zero v
  subst this
  refine ⟨N4 fun h=>k h rfl, ?_⟩
  simp [choose,Sem.run,Question.forced]
 ·right
  have t:L.isEmpty=false:=by simp [Array.isEmpty,v]
  simp only [t,Nx,if_false,Array.empty_append,Array.size_map]
  have q:∃(j:Nat) (c:World),j<L.size/\(c=w\/c=w.drew)/\(choose (Question.mapNext L.size)).run P w=.ok j c:=by
   by_cases y:L.size<=1
   ·exact ⟨0,w,by omega,.inl rfl,by simp [choose,Sem.run,Question.forced,y]⟩
   ·exact ⟨_,w.drew,P1 _ (by omega),.inr rfl,by
     simp only [choose,Sem.run,Question.forced,Oa,y,if_false,Question.cut]
     rfl⟩
  obtain ⟨j,c,d,m,l⟩:=q
  obtain ⟨z,A⟩:=i L[j] (by simp)
  refine ⟨_,z,L[j],A,c,m, ?_⟩
  have u:c.heap[r]? = some (.mapIter (some o) n seen.toArray n):=by
   rcases m with rfl | rfl<;>exact hr
  simp only [l,Array.getElem?_map,N9 d,Nv,Sem.run_bind,setObj,Sem.run,u,Result.andThen]
  simp [World.putObj]
theorem Nb1 {v:Value} (h:VG v=true):VRel σ v v:=by
 cases v<;>simp only [VG] at h<;>first
  | (cases h;done)
  | exact .atom rfl
  | skip
 rename_i cs
 rw [N5] at h
 refine VRel.agg_iff.2 ⟨OJ.refl_of fun x a=>?_,fun y b=>?_⟩
 ·have:=h x a
  cases x<;>first | exact .atom rfl | (simp at this;done)
 ·have:=h y b
  cases y<;>first | rfl | (simp at this;done)
theorem Inv.push {Pg:Prg} (h:Inv Pg W lim σ H w) {b:Blk} {o:Obj} (ho:owned b=true) (g:UB Pg (σ.put H.length ⟨w.heap.size,0,0⟩) (w.alloc o) ⟨w.heap.size,0,0⟩ b):Inv Pg W lim (σ.put H.length ⟨w.heap.size,0,0⟩) (H++[b]) (w.alloc o)/\∀j,(σ.put H.length ⟨w.heap.size,0,0⟩) j≠σ j->none=some j\/H.length<=j:=by
 have p:Inv Pg W lim σ H (w.alloc o):=h.world (by simp) fun b g=>by rw [Uu,Py];rw [Nh (by omega)]
 obtain ⟨i,k,r,l,s,t,u⟩:=TF (dest:=none) (b:=b) (H:=H) (show place none b H=(H.length,H++[b]) from rfl) (fun d e=>by cases e)
 refine ⟨p.adopt i k l (h.dom _ (Nd _)) g ho (h.fresh _ (Nd _)) fun j bj Lj n c f a e=>?_,fun j m=>.inr ?_⟩
 ·obtain ⟨q,h1,h2⟩:=h.blk j bj c f
  rw [a] at h1;cases h1
  have:=h2.lt f
  simp at e
  omega
 ·apply N4
  intro hc
  refine m ?_
  simp only [PK.put]
  rw [Nh (by omega)]
theorem N2i {r:Nat} {o:Obj} (a:W r):Stp W w (w.putObj r o):=
 ⟨rfl,rfl,rfl,by simp,fun b c=>World.putObj_heap_other fun e=>c (e▸a)⟩
theorem Inv.putLoop (h:Inv (Prg.mk P pf) W lim σ H w) {i:Nat} {b b':Blk} {L:Loc} (d:NF H i=b) (ho:owned b=true) (hL:σ i=some L) (hl:lim<=i) {o:Obj} (a:UB (Prg.mk P pf) σ (w.putObj L.blk o) L b') (c:alive b'=true->owned b'=true) :
  Inv (Prg.mk P pf) W lim σ (H.set i b') (w.putObj L.blk o)/\Stp W w (w.putObj L.blk o):=by
 have hi:=RD d (PP ho)
 exact ⟨h.rewrite hi ho hL (by simp) (fun k hk=>World.putObj_heap_other hk) a c,N2i (h.wr i b L hi ho hl hL)⟩
theorem Nxf (X:CallOkS (Prg.mk P pf) C) {o:Oper} {M:AOp} (h:Naj P pureF false o=some M) (A:Inv (Prg.mk P pf) W lim σ H w) (hl:lim<=H.length)
  {ρ:Operand->Value} {a:Act} (hρ:∀x,PT x=true->VRel σ (ρ x) (a.eval x)) {L} (t:Yt C lim M ρ H=some L)
  {K:Act->World->Prop} {Q:Exit->Act->World->Prop} (Y:∀r∈L,∀v' w' B,ZJ (Prg.mk P pf) W lim σ none H w r.1 r.2 v' w' B->K (a.put o.dst v') w'):o.wpIn (WF ro) 0 P a w K Q:=by
 by_cases z:∃mp f args,M=.call mp f args
 ·obtain ⟨mp,f,args,rfl⟩:=z
  have ac:∃c,o.op=.call c/\c.callee=.value f/\args=c.args.toList/\∀x∈o.op.operands,PT x=true:=by
   obtain ⟨dst,op,type,pos,after,guard⟩:=o
   unfold Naj at h
   split at h
   ·cases h
   rename_i R
   simp only [Bool.not_eq_true,Bool.not_eq_false'] at R
   have s:∀x∈op.operands,PT x=true:=fun x t=>Nk3 (o:=⟨dst,op,type,pos,after,guard⟩) (by simpa using R) t
   cases op<;>(try simp only at h)<;>try (cases h;done)
   case call c=>
    refine ⟨c,rfl, ?_⟩
    cases hc:c.callee with
    | value f'=>rw [hc] at h;simp at h;obtain ⟨_,rfl,rfl⟩:=h;exact ⟨rfl,rfl,s⟩
    | invoke r m=>rw [hc] at h;simp at h
    | builtin b=>
      rw [hc] at h
      exfalso
      cases b<;>(try simp only at h)<;>(try (cases h;done))<;>(repeat' (split at h))<;>first
       | (cases h;done)
       | (simp only [Nc] at h;obtain ⟨_,_,h⟩:=h;cases h;done)
       | (exfalso;simp at h;done)
       | (obtain ⟨_,_,h⟩:=NZ h;obtain ⟨_,_,h⟩:=NZ h;obtain ⟨_,_,h⟩:=NZ h;split at h<;>cases h;done)
   all_goals exfalso
   all_goals (repeat' (first | (obtain ⟨_,_,h⟩:=NZ h) | split at h))
   all_goals first
    | (cases h;done)
    | (simp only [Nc] at h;obtain ⟨_,_,h⟩:=h;cases h;done)
    | contradiction
  obtain ⟨c,ho,p,rfl,s⟩:=ac
  simp only [Yt] at t
  split at t
  case h_2=>cases t
  rename_i g as l
  split at t
  case h_2=>cases t
  rename_i L0 k
  have ad:∀r∈L0,r∈L:=fun r hr=>by
   obtain ⟨y,hy,e⟩:=Y4 t r hr
   have:=(SG e).1
   cases this
   exact hy
  obtain ⟨J,E⟩:=CM.lim_le mp hl
  have n:=A.up J
  generalize mp.lim lim H=lim' at k J E n
  generalize mp.isPure=ae at k
  have T:∀{ρ'},o.semAt (WF ro).round ρ'=execOp ρ' o:=fun {ρ'}=>Oper.semAt_eq _ _ _ fun c' e=>by rw [ho] at e;cases e
  refine ⟨fun _ _=>trivial, ?_⟩
  rw [T]
  have ab:PT f=true:=s f (by rw [ho];simp [Op.operands,Call.operands,p])
  have D:=hρ f ab
  have u:OJ σ (c.args.toList.map ρ) (c.args.map a.eval).toList:=by
   have:(c.args.map a.eval).toList=c.args.toList.map a.eval:=by simp
   rw [this]
   exact VF fun x t=>hρ x (s x (by rw [ho];simp only [Op.operands,Call.operands,p];simp at t⊢;exact .inr t))
  have fin:∀{N:Ending} {w':World} {K':Value->World->Prop},(∃r∈L0,Td (Prg.mk P pf) W lim' σ H r.1 r.2 w N w')->(∀v',N=.returned v'->(∃r∈L,∃B,ZJ (Prg.mk P pf) W lim σ none H w r.1 r.2 v' w' B)->K' v' w')->∃v',N=.returned v'/\K' v' w':=fun {N w' K'} hp hk=>by
   obtain ⟨r,hr,v',B,rfl,q1,q2,q3,q4,q5⟩:=hp
   obtain ⟨g1,g2⟩:=X.grow _ _ _ _ _ _ k E r hr
   exact ⟨v',rfl,hk v' rfl ⟨r,ad r hr,B,q1,A.back q2 q4 g2,q3,q4,fun j hj=>.inr (q5 j hj),g1,g2.weaken J⟩⟩
  unfold NC at l
  split at l
  case h_3=>cases l
  case h_2=>
   rename_i i fi ca hf
   simp only [Option.some.injEq,Prod.mk.injEq] at l
   obtain ⟨rfl,rfl⟩:=l
   rw [hf] at D
   obtain ⟨L1,hL,rfl,rfl,I⟩:=D.yld_left
   simp only [Ok,Nb] at k
   obtain ⟨r,h1,h2,V⟩:=X.rounds _ _ _ _ _ _ k E W σ w _ L1 n u hL
   simp only [Array.toArray_toList] at h2 V
   rw [Ne8 (P:=P) ho p I h1 h2,Oper.uponIn_round]
   refine ⟨Mq,Ndu (V.mono fun N w' hp=>?_)⟩
   obtain ⟨v',rfl,hk⟩:=fin (K':=fun v' w'=>K (a.put o.dst v') w') hp fun v' _ ⟨r,hr,B,hn⟩=>Y r hr v' w' B hn
   exact hk
  rename_i g' fi ca hf
  simp only [Option.some.injEq,Prod.mk.injEq] at l
  obtain ⟨rfl,rfl⟩:=l
  rw [hf] at D
  obtain ⟨G,F,I,aa,Z⟩:=D.func_left
  obtain ⟨fn,h1,h2,V⟩:=X.fn _ _ _ _ _ _ k
  have S:=Ne9 (P:=P) (w:=w) ho p I h1 h2 V
  have q:=X.calls _ _ _ _ _ _ k E W σ w (G.toList++(c.args.map a.eval).toList++F.toList) n ((aa.append u).append Z)
  have e:(G.toList++(c.args.map a.eval).toList++F.toList).toArray=G++c.args.map a.eval++F:=by
   apply Array.ext';simp
  rw [e] at q
  rw [S,Oper.uponIn_enter]
  refine ⟨Mq,Ne6 (q.mono fun N w' hp=>?_)⟩
  obtain ⟨v',rfl,hk⟩:=fin (K':=fun v' w'=>K (a.put o.dst v') w') hp fun v' _ ⟨r,hr,B,hn⟩=>Y r hr v' w' B hn
  exact hk
 ·have O:∀mp f args,M≠.call mp f args:=fun mp f args e=>z ⟨mp,f,args,e⟩
  have U:(NJ lim none M ρ H).map (fun r=>[r])=some L:=by
   cases M<;>first | exact t | exact absurd rfl (O _ _ _)
  simp only [Nc] at U
  obtain ⟨⟨v,H'⟩,hv,rfl⟩:=U
  refine Nsk (Nmq (Prg.mk P pf)) (dest:=none) h A hl (fun d e=>by cases e) (fun d e=>by cases e) hρ (v:=v) (H':=H') (by rw [OQ O];exact hv) fun v' w' B hn=>Y (v,H') (by simp) v' w' B hn
theorem Nsm {o:Oper} {x:Operand} {k:Nat} (g:N2f P o=some (x,k)) (d:Inv (Prg.mk P pf) W lim σ H w) (hl:lim<=H.length)
  {ρ:Operand->Value} {a:Act} (hρ:∀x,PT x=true->VRel σ (ρ x) (a.eval x)) {L} {i:AIns} (am:i.op=.mov x) (an:i.dest=some k) (f:stepX C lim i ρ H=some L)
  {K:Act->World->Prop} {Q:Exit->Act->World->Prop} (hK:∀r∈L,∀v' w' σ',ZJ (Prg.mk P pf) W lim σ none H w r.1 r.2 v' w' σ'->K (a.put o.dst v') w'):o.wpIn (WF ro) 0 P a w K Q:=by
 obtain ⟨dst,op,type,pos,after,guard⟩:=o
 unfold N2f at g
 split at g
 ·cases g
 rename_i ag
 simp only [Bool.not_eq_true,Bool.not_eq_false'] at ag
 have F:∀x∈op.operands,PT x=true:=fun x f=>Nk3 (o:=⟨dst,op,type,pos,after,guard⟩) (by simpa using ag) f
 unfold stepX at f
 rw [an,am] at f
 simp only [Ndg] at f
 have fin:∀{v v':Value} {H1:NE} {w1:World} {σ1:PK},(v,H1)∈L->(execOp a.eval ⟨dst,op,type,pos,after,guard⟩).run P w=.ok (.value v') w1->ZJ (Prg.mk P pf) W lim σ none H w v H1 v' w1 σ1->Oper.wpIn (WF ro) 0 P ⟨dst,op,type,pos,after,guard⟩ a w K Q:=fun {v v' H1 w1 σ1} hm hr hn=>by
  have al:∀c,op≠.defer c:=fun c e=>by
   subst e
   simp at g
  refine ⟨fun _ _=>trivial, ?_⟩
  rw [Oper.semAt_eq _ _ _ al,hr,Oper.uponIn_value]
  exact hK _ hm _ _ _ hn
 cases op<;>simp only at g<;>try (cases g;done)
 case range t y=>
  split at g
  case h_2=>cases g
  rename_i kt et J
  cases g
  have N:=hρ x (F x (by simp [Op.operands]))
  simp only at f
  simp only [Nc] at f
  obtain ⟨p,hp,rfl⟩:=f
  unfold Ux at hp
  split at hp
  case h_2=>cases hp
  rename_i m es hm h
  cases hp
  rw [hm] at h N
  rcases d.entries N h with ⟨l,rfl⟩ | ⟨r,L,ents,clock,E,A,hL,l,I,D,u⟩
  ·have au:m=none:=by
    cases m with
    | none=>rfl
    | some r=>obtain ⟨L,_,h2⟩:=N.map_left;rw [l] at h2;cases h2
   subst au
   obtain ⟨i1,i2⟩:=d.push (b:=.iter none 0 []) (o:=.mapIter none 0 #[] 0) rfl ⟨rfl,none,rfl,World.alloc_heap_new _ _,fun j q=>by cases q⟩
   refine fin (Nj.2 rfl) (v':=.pointer (some ⟨w.heap.size,0,none⟩)) (by
    simp only [execOp]
    refine OW P w _ ?_
    rw [l]
    exact run_range_nilMap w t kt et J) ⟨by have:=VRel.ptr (σ:=σ.put H.length ⟨w.heap.size,0,0⟩) (k:=0) PK.put_same;simpa using this,i1,Stp.alloc d.fresh _,PK.le_put (d.dom _ (Nd _)),i2,by simp,Grow.app hl fun b A _=>by simp at A;subst A;rfl⟩
  ·cases E
   obtain ⟨t1,t2⟩:=d.stamps A hL I
   have ad:=PK.le_put (L:=⟨w.heap.size,0,0⟩) (d.dom _ (Nd H.length))
   obtain ⟨i1,i2⟩:=d.push (b:=.iter (some r) es.length []) (o:=.mapIter (some L.blk) clock #[] clock) rfl ⟨rfl,some L.blk,⟨L,ad _ _ hL,rfl⟩,by rw [<-t1];exact World.alloc_heap_new _ _,fun j q=>by cases q⟩
   refine fin (Nj.2 rfl) (v':=.pointer (some ⟨w.heap.size,0,none⟩)) (by
    simp only [execOp]
    refine OW P w _ ?_
    rw [l]
    exact run_range_map w t kt et L.blk ents clock J I) ⟨by have:=VRel.ptr (σ:=σ.put H.length ⟨w.heap.size,0,0⟩) (k:=0) PK.put_same;simpa using this,i1,Stp.alloc d.fresh _,ad,i2,by simp,Grow.app hl fun b A _=>by simp at A;subst A;rfl⟩
 case next it Yk=>
  split at g
  ·cases g
  rename_i hs
  cases g
  have N:=hρ x (F x (by simp [Op.operands]))
  simp only at f
  unfold ZG at f
  split at f
  case h_2=>cases f
  rename_i r hr
  rw [hr] at N
  obtain ⟨Lr,ab,_,Z⟩:=N.ptr_left
  split at f
  case h_2=>cases f
  rename_i m n seen A
  split at f
  case isFalse=>cases f
  rename_i ae
  split at f
  case h_2=>cases f
  rename_i es h
  split at f
  case isFalse=>cases f
  rename_i hn
  obtain ⟨L',h1,T⟩:=d.blk r _ (RD A rfl) rfl
  have O:σ r=some Lr:=ab
  rw [O] at h1;cases h1
  obtain ⟨h0,m',hm,I,ah⟩:=T
  have hp:a.eval x=.pointer (some ⟨Lr.blk,0,none⟩):=by rw [Z,h0];rfl
  have aw:Yk=false:=by simpa using hs
  subst aw
  cases m with
  | none=>
    cases hm
    have e0:es=[]:=by simp [mapEntries] at h;exact h
    subst e0
    have aq:n=0:=by simpa using hn.symm
    subst aq
    have J:SY 0 seen=[]:=rfl
    rw [J] at f
    cases f
    refine fin (Nj.2 rfl) (v':=.tuple #[.bool false]) (by
     simp only [execOp]
     refine OW P w _ ?_
     rw [hp]
     simp only [Instr.next,getObj,Sem.run_bind,Sem.run,I,Result.andThen]
     rfl) ⟨VRel.tuple_iff.2 (OJ.cons (.atom rfl) OJ.nil),d,Stp.refl _ _,PK.le_refl _,fun j q=>absurd rfl q,Nd _,Grow.refl _ _⟩
  | some mr=>
    obtain ⟨M,hM,rfl⟩:=hm
    have ay:NF H mr=.map es:=by
     simp only [mapEntries] at h
     split at h
     ·rename_i aj;cases h;exact aj
     ·cases h
    rcases d.entries (.map hM) h with ⟨l,_⟩ | ⟨r',L1,ents,clock,E,S,z,l,s,D,u⟩
    ·cases l
    cases E
    have R:L1=M:=by rw [z] at hM;cases hM;rfl
    subst R
    obtain ⟨t1,t2⟩:=d.stamps S z s
    rw [t1,hn] at s
    simp only [Option.isSome_some,if_true] at I
    rcases Nys (P:=P) (ty:=type) I s t2 (by rw [D,hn]) with ⟨J,G⟩ | ⟨j,q,e,he,w1,aa,G⟩
    ·rw [J] at f
     cases f
     refine fin (Nj.2 rfl) (v':=.tuple #[.bool false]) (by
      simp only [execOp]
      refine OW P w _ ?_
      rw [hp]
      exact G) ⟨VRel.tuple_iff.2 (OJ.cons (.atom rfl) OJ.nil),d,Stp.refl _ _,PK.le_refl _,fun j q=>absurd rfl q,Nd _,Grow.refl _ _⟩
    ·have ax:Y5 (fun j=>match es[j]? with
       | some e=>if VG e.1 then some (.tuple #[.bool true,e.1,e.2],H.set r (.iter (some mr) n (seen++[j]))) else none
       | none=>none) (SY n seen)=some L:=by
      cases J:SY n seen with
      | nil=>rw [J] at q;cases q
      | cons j0 l0=>rw [J] at f;exact f
     obtain ⟨y,hy,ey⟩:=Y4 ax j q
     have ao:j<n:=by
      unfold SY at q
      exact List.mem_range.1 (O0.1 q).1
     have B:j<es.length:=by omega
     rw [Nf B] at ey
     simp only at ey
     split at ey
     case isFalse=>cases ey
     rename_i X
     cases ey
     obtain ⟨k1,k2⟩:=u j es[j] e (Nf B) he
     have V:Inv (Prg.mk P pf) W lim σ H w1:=by rcases aa with rfl | rfl;exact d;exact d.drew
     have ai:Stp W w w1:=by rcases aa with rfl | rfl;exact Stp.refl _ _;exact Stp.drew
     have ap:Lr.blk<w1.heap.size:=by
      have:=(Array.getElem?_eq_some_iff.1 I).1
      rcases aa with rfl | rfl<;>exact this
     obtain ⟨i1,i2⟩:=V.putLoop (o:=.mapIter (some L1.blk) n (seen++[j]).toArray n) (b':=.iter (some mr) n (seen++[j])) A rfl ab ae
      ⟨h0,some L1.blk,⟨L1,z,rfl⟩,by simpa using World.putObj_heap_same ap,fun i hi=>by
       rcases Ol.1 hi with hi | hi
       ·exact ah i hi
       ·rw [Nj] at hi;subst hi;exact ao⟩ (fun _=>rfl)
     refine fin hy (v':=.tuple #[.bool true,e.key,e.val]) (by
      simp only [execOp]
      refine OW P w _ ?_
      rw [hp]
      exact G) ⟨VRel.tuple_iff.2 (OJ.cons (.atom rfl) (OJ.cons (by rw [<-k1];exact Nb1 X) (OJ.cons k2 OJ.nil))),i1,ai.trans i2,PK.le_refl _,fun j q=>absurd rfl q,by simp,Grow.set ae fun _=>rfl⟩
 case entry it=>
  cases g
  have N:=hρ x (F x (by simp [Op.operands]))
  simp only at f
  simp only [Nc] at f
  obtain ⟨p,hp,rfl⟩:=f
  unfold YN at hp
  split at hp
  case h_2=>cases hp
  rename_i r hr
  rw [hr] at N
  obtain ⟨L,hL,_,Z⟩:=N.ptr_left
  split at hp
  case h_2=>cases hp
  rename_i mr n seen A
  split at hp
  case h_2=>cases hp
  rename_i es j h Y
  split at hp
  case isFalse=>cases hp
  rename_i hn
  split at hp
  case h_2=>cases hp
  rename_i e0 ac
  split at hp
  case isFalse=>cases hp
  rename_i X
  cases hp
  obtain ⟨L',h1,T⟩:=d.blk r _ (RD A rfl) rfl
  have O:σ r=some L:=hL
  rw [O] at h1;cases h1
  obtain ⟨h0,m',⟨M,hM,rfl⟩,I,ah⟩:=T
  have av:a.eval x=.pointer (some ⟨L.blk,0,none⟩):=by rw [Z,h0];rfl
  rcases d.entries (.map hM) h with ⟨l,_⟩ | ⟨r',L1,ents,clock,E,S,z,l,s,D,u⟩
  ·cases l
  cases E
  have R:L1=M:=by rw [z] at hM;cases hM;rfl
  subst R
  obtain ⟨t1,t2⟩:=d.stamps S z s
  rw [t1,hn] at s
  simp only [Option.isSome_some,if_true] at I
  have az:j<es.length:=(List.getElem?_eq_some_iff.1 ac).1
  have B:j<ents.size:=by omega
  obtain ⟨k1,k2⟩:=u j e0 ents[j] ac (by simp [B])
  obtain ⟨s0,rfl⟩:∃s0,seen=s0++[j]:=by
   exact List.getLast?_eq_some_iff.1 Y
  have U:ents.find? (·.born == j)=some ents[j]:=by
   rw [<-Array.find?_toList]
   have ar:(ents.toList.map (·.born)).Nodup:=by
    have:ents.toList.map (·.born)=List.range ents.size:=by
     apply Pn (by simp)
     intro i h1 h2
     simp at h1 h2
     simp
     exact t2 i ents[i] (by simp)
    rw [this];exact List.nodup_range
   have:=find_born ents[j] ents.toList ar (by simp)
   rw [t2 j ents[j] (by simp [B])] at this
   exact this
  refine fin (Nj.2 rfl) (v':=.tuple #[ents[j].key,ents[j].val]) (by
   simp only [execOp]
   refine OW P w _ ?_
   rw [av]
   have ak:(s0++[j]).toArray.back? = some j:=by simp
   simp only [Instr.entry,getObj,Sem.run_bind,Sem.run,I,s,ak,Result.andThen,bne_self_eq_false,Nx,if_false,U]
   rfl) ⟨VRel.tuple_iff.2 (OJ.cons (by rw [<-k1];exact Nb1 X) (OJ.cons k2 OJ.nil)),d,Stp.refl _ _,PK.le_refl _,fun j q=>absurd rfl q,Nd _,Grow.refl _ _⟩
theorem N3t (D:CallOkS (Prg.mk P pf) C) {ops:Array Oper} {j:Nat} {o:Oper} (v:ops[j]? = some o) {i:AIns} (c:Yo P pureF ops o=some i) {N:Nat} {fr:Nat->Value} {a:Act} (hs:State (Prg.mk P pf) ds W lim σ N fr H a w)
  {L} (h:ZX C N lim i fr H=some L) {K:Act->World->Prop} {Q:Exit->Act->World->Prop} (A:∀r∈L,∀p a' w',State (Prg.mk P pf) ds W lim p N r.1 r.2 a' w'->Stp W w w'->PK.le σ p->Grow lim H r.2->(∀j,p j≠σ j->H.length<=j)->H.length<=r.2.length->K a' w'):wpOpIn (WF ro) 0 P ops Q j K a w:=by
 have e:(∃q,Naj P pureF false o=some q/\i.op=q/\i.dest=none\/∃x k,N2f P o=some (x,k)/\i.op=.mov x/\i.dest=some k)/\i.dst=o.dst/\Mt ops o.guard=some i.guard:=by
  unfold Yo at c
  split at c
  ·rename_i J l
   cases c
   obtain ⟨q,d,l⟩:=NZ l
   obtain ⟨g,u,l⟩:=NZ l
   cases l
   exact ⟨⟨q,.inl ⟨d,rfl,rfl⟩⟩,rfl,u⟩
  ·obtain ⟨⟨x,k⟩,d,c⟩:=NZ c
   obtain ⟨g,u,c⟩:=NZ c
   cases c
   exact ⟨⟨default,.inr ⟨x,k,d,rfl,rfl⟩⟩,rfl,u⟩
 obtain ⟨e,n,u⟩:=e
 unfold wpOpIn
 rw [v]
 simp only
 unfold ZX at h
 cases hw:RG N fr i.guard with
 | none=>rw [hw] at h;cases h
 | some b=>
 rw [hs.fr.wanted u hw]
 rw [hw] at h
 cases b with
 | false=>
   simp only [Nx,if_false]
   simp only [Nc] at h
   obtain ⟨f,t,rfl⟩:=h
   rw [n] at t
   exact ⟨fun _ _=>trivial,A _ (Nj.2 rfl) σ _ w ⟨hs.fr.put (.atom rfl) t,hs.inv,hs.lim⟩ (Stp.refl _ _) (PK.le_refl _) (Grow.refl _ _) (fun j v=>absurd rfl v) (Nd _)⟩
 | true=>
   simp only [if_true]
   simp only at h
   split at h
   case h_2=>cases h
   rename_i L0 m
   have go:∀r∈L0,∀v' w' p,ZJ (Prg.mk P pf) W lim σ none H w r.1 r.2 v' w' p->K (a.put o.dst v') w':=fun r hr v' w' p hn=>by
    obtain ⟨y,E,z⟩:=Y4 h r hr
    simp only [Nc] at z
    obtain ⟨f,t,rfl⟩:=z
    rw [n] at t
    obtain ⟨q1,q2,q3,B,F,G,I⟩:=hn
    exact A _ E p _ w' ⟨(hs.fr.mono B).put q1 t,q2,by have:=hs.lim;simp only;omega⟩ q3 B I (fun j v=>(F j v).resolve_left (by simp)) G
   obtain ⟨q,⟨d,h1,h2⟩ | ⟨x,k,d,h1,h2⟩⟩:=e
   ·have s:Yt C lim q (ev fr) H=some L0:=by
     unfold stepX at m
     rw [h2,h1] at m
     exact m
    exact Nxf D d hs.inv hs.lim (fun x h=>hs.fr.ev h) s go
   ·exact Nsm d hs.inv hs.lim (fun x h=>hs.fr.ev h) h1 h2 m go
theorem Z6 (p:CallOkS (Prg.mk P pf) C) {ops:Array Oper} {N:Nat} {Q:Exit->Act->World->Prop} (W:Nat->Prop) (lim:Nat) (d:PK) (H0:NE) (o:World) {l:List AIns} (hl:ops.toList.mapM (Yo P pureF ops)=some l) :
  ∀(m s:Nat) (fr:Nat->Value) (H:NE) (a:Act) (w:World) (σ:PK) (i:List ((Nat->Value)×NE)),
   (∀r∈i,∀a w σ,State (Prg.mk P pf) ds W lim σ N r.1 r.2 a w->Stp W o w->PK.le d σ->Grow lim H0 r.2->(∀j,σ j≠d j->H0.length<=j)->H0.length<=r.2.length->Q .normal a w)->
   s+m=ops.size->State (Prg.mk P pf) ds W lim σ N fr H a w->Stp W o w->PK.le d σ->Grow lim H0 H->(∀j,σ j≠d j->H0.length<=j)->H0.length<=H.length->
   Yg C N lim (l.drop s) fr H=some i->wpOpsIn (WF ro) 0 P ops Q (List.range' s m) a w
 | 0,s,fr,H,a,w,σ,i,hQ,hs,hst,h1,h2,h3,h4,h5,c=>by
   have b:=(MG hl).1
   have:l.drop s=[]:=by
    apply Qa
    rw [b];simp;omega
   rw [this] at c
   simp [Yg] at c
   subst c
   simp only [List.range'_zero,wpOpsIn]
   exact hQ (fr,H) (by simp) a w σ hst h1 h2 h3 h4 h5
 | m+1,s,fr,H,a,w,σ,i,hQ,hs,hst,h1,h2,h3,h4,h5,c=>by
   obtain ⟨b,NF⟩:=MG hl
   have f:s<l.length:=by rw [b];simp;omega
   have g:s<ops.size:=by omega
   rw [Ou f] at c
   simp only [Yg] at c
   split at c
   case h_2=>cases c
   rename_i L hL
   have n:=NF s ops[s] l[s] (by simp [g]) (by simp [f])
   rw [List.range'_succ,wpOpsIn_cons]
   refine N3t p (by simp [g]) n hst hL fun r hr y a' w' q1 q2 q3 u v z=>?_
   obtain ⟨q,k,h⟩:=UR c r hr
   exact Z6 p W lim d H0 o hl m (s+1) r.1 r.2 a' w' y q (fun x c=>hQ x (h x c)) (by omega) q1 (h1.trans q2) (PK.le_trans h2 q3) (h3.trans u)
    (fun j t=>by
     apply Oe
     intro hc
     have e1:σ j=d j:=N4 fun e=>hc (h4 j e)
     have:=v j (fun e=>t (e.trans e1))
     omega) (by omega) k
end
end Go.AM


namespace Go.AM
open Go.RowKit
structure EnvOk (P:Program) (E:Env):Prop where
 tr:∀g af,E.tr g=some af->NP P E.pure g=some af
 orcFn:∀g as v,E.orc g as=some v->∃fn,P.funcs[g]? = some fn/\fn.body.isSome=true/\(fn.name == "runtime.NumGoroutine")=false
 orc:∀g as v,E.orc g as=some v->∀w,Calls P g as.toArray w fun e w'=>e=.returned v/\Below w.heap.size w w'
 orcFlat:∀g as v,E.orc g as=some v->∀σ,VRel σ v v
 mixed:P.follows .mixedOrders=true
 effFn:∀g as H r,E.eff g as H=some r->∃fn,P.funcs[g]? = some fn/\fn.body.isSome=true/\(fn.name == "runtime.NumGoroutine")=false
 eff:∀g as H r,E.eff g as H=some r->∀lim,lim<=H.length->∀W σ w as',Inv (Prg.mk P (Env.pure E)) W lim σ H w->OJ σ as as'->Calls P g as'.toArray w (Td (Prg.mk P (Env.pure E)) W lim σ H r.1 (H++news r.2) w)
theorem VRel.eq_of_atom {σ:PK} {v v':Value} (h:VRel σ v v') (a:AM.atom v=true):v'=v:=by
 cases h with
 | atom _=>rfl
 | func h1 h2 k1 k2=>
   simp [AM.atom] at a
   obtain ⟨rfl,rfl⟩:=a
   simp at h1 h2
   rw [Array.size_eq_zero_iff.1 h1.symm,Array.size_eq_zero_iff.1 h2.symm]
 | tuple h k=>
   simp [AM.atom] at a
   subst a
   rw [Array.size_eq_zero_iff.1 h.symm]
 | _=>simp [AM.atom] at a
theorem VRel.flat_self {τ:PK}:∀(n:Nat) {σ:PK} {v v':Value},VRel σ v v'->flat n v=true->VRel τ v v'
 | 0,σ,v,v',h,hf=>by
   have a:AM.atom v=true:=by cases v<;>simpa [flat] using hf
   rw [h.eq_of_atom a];exact .atom a
 | n+1,σ,v,v',h,hf=>by
   have at':AM.atom v=true->VRel τ v v':=fun a=>by rw [h.eq_of_atom a];exact .atom a
   cases h with
   | agg h k o=>
     simp only [flat,N5] at hf
     exact .agg h (fun i h1 h2=>VRel.flat_self n (k i h1 h2) (hf _ (by simp))) o
   | tuple h k=>
     simp only [flat,N5] at hf
     exact .tuple h (fun i h1 h2=>VRel.flat_self n (k i h1 h2) (hf _ (by simp)))
   | atom h=>exact .atom h
   | func h1 h2 k1 k2=>exact at' (by simpa [flat] using hf)
   | _=>simp [flat,AM.atom] at hf
theorem MC {n:Nat} (d:Nat) {v:Value} (h:AM.atom v=true):olds n d v=true:=by
 cases v with
 | pointer o=>
   cases o with
   | none=>cases d<;>rfl
   | some a=>simp [AM.atom] at h
 | map o=>
   cases o with
   | none=>cases d<;>rfl
   | some a=>simp [AM.atom] at h
 | slice o a b=>
   cases o with
   | none=>cases d<;>exact h
   | some a=>simp [AM.atom] at h
 | agg cs=>simp [AM.atom] at h
 | tuple cs=>
   have:cs=#[]:=by simpa [AM.atom] using h
   subst this
   cases d<;>rfl
 | _=>cases d<;>exact h
theorem XH {n:Nat}:∀(d:Nat) {v:Value},flat d v=true->olds n d v=true
 | 0,v,h=>MC 0 (by cases v<;>simpa [flat] using h)
 | d+1,v,h=>by
   cases v with
   | agg cs=>simp only [flat,olds,N5] at h⊢;exact fun x a=>XH d (h x a)
   | tuple cs=>simp only [flat,olds,N5] at h⊢;exact fun x a=>XH d (h x a)
   | _=>exact MC _ (by simpa [flat] using h)
theorem VRel.olds {σ τ:PK} {n:Nat} (hs:∀i L,i<n->σ i=some L->τ i=some L):∀(d:Nat) {v v':Value},VRel σ v v'->olds n d v=true->VRel τ v v'
 | 0,v,v',h,hf=>by
   cases h with
   | atom h=>exact .atom h
   | ptr h=>exact .ptr (hs _ _ (by simpa [AM.olds] using hf) h)
   | slice h hc=>exact .slice (hs _ _ (by simpa [AM.olds] using hf) h) hc
   | lslice h hn hr=>exact .lslice (hs _ _ (by simpa [AM.olds] using hf) h) hn hr
   | eslice h hc=>exact .eslice (hs _ _ (by simpa [AM.olds] using hf) h) hc
   | map h=>exact .map (hs _ _ (by simpa [AM.olds] using hf) h)
   | func h1 h2 k1 k2=>
     rw [(VRel.func h1 h2 k1 k2).eq_of_atom (by simpa [AM.olds] using hf)]
     exact .atom (by simpa [AM.olds] using hf)
   | yld h=>simp [AM.olds,AM.atom] at hf
   | agg h k o=>simp [AM.olds,AM.atom] at hf
   | @tuple xs ys h k=>
     have a:AM.atom (.tuple xs)=true:=by simpa [AM.olds] using hf
     rw [(VRel.tuple h k).eq_of_atom a]
     exact .atom a
 | d+1,v,v',h,hf=>by
   cases h with
   | agg h k o=>
     simp only [AM.olds,N5] at hf
     exact .agg h (fun i h1 h2=>VRel.olds hs d (k i h1 h2) (hf _ (by simp))) o
   | tuple h k=>
     simp only [AM.olds,N5] at hf
     exact .tuple h (fun i h1 h2=>VRel.olds hs d (k i h1 h2) (hf _ (by simp)))
   | atom h=>exact .atom h
   | ptr h=>exact .ptr (hs _ _ (by simpa [AM.olds] using hf) h)
   | slice h hc=>exact .slice (hs _ _ (by simpa [AM.olds] using hf) h) hc
   | lslice h hn hr=>exact .lslice (hs _ _ (by simpa [AM.olds] using hf) h) hn hr
   | eslice h hc=>exact .eslice (hs _ _ (by simpa [AM.olds] using hf) h) hc
   | map h=>exact .map (hs _ _ (by simpa [AM.olds] using hf) h)
   | func h1 h2 k1 k2=>
     rw [(VRel.func h1 h2 k1 k2).eq_of_atom (by simpa [AM.olds] using hf)]
     exact .atom (by simpa [AM.olds] using hf)
   | yld h=>simp [AM.olds,AM.atom] at hf
section
variable {P:Program} {pf:FuncId->Bool} {W:Nat->Prop} {lim:Nat} {σ:PK} {H H':NE} {w:World} {ds:List Deferred}
inductive Md where
 | n | m | r (i:Nat)
def trX (P:Program) (pf:FuncId->Bool):Md->Code->Option ACode
 | .n=>X8 P pf
 | .m=>TY P pf
 | .r _=>Tn P pf
inductive XC (P:Program) (pf:FuncId->Bool):Md->Code->ACode->Prop
 | skip {md}:XC P pf md .skip .skip
 | plain {md id ops l} (h:ops.toList.mapM (Yo P pf ops)=some l):XC P pf md (.region id ops false) (.ops l)
 | drawn {md id ops n L} (h:V8 P pf ops=some (.drawn n L)):XC P pf md (.region id ops true) (.drawn n L)
 | seq {md a b a' b'} (h:trX P pf md a=some a') (k:trX P pf md b=some b'):XC P pf md (.seq a b) (.seq a' b')
 | cond {md c a b a' b'} (ho:PT c=true) (h:trX P pf md a=some a') (k:trX P pf md b=some b'):XC P pf md (.cond c a b) (.cond c a' b')
 | block {md id a a'} (h:trX P pf md a=some a'):XC P pf md (.block id a) (.block id a')
 | loop {md a a'} (h:trX P pf md a=some a'):XC P pf md (.loop a) (.loop a')
 | exit {md id} (h:∀i,md≠.r i):XC P pf md (.exit id) (.exit id)
 | exitR {i id}:XC P pf (.r i) (.exit id) (.exitR id)
 | ret:XC P pf .n .ret .ret
 | retM:XC P pf .m .ret .retM
 | retR {i}:XC P pf (.r i) .ret .retR
 | rangeF {f ps a b a' b'} (ho:PT f=true) (h:Tn P pf a=some a') (k:Tn P pf b=some b'):XC P pf .m (.rangeFunc f ps a b) (.rangeF f ps.toList a' b')
theorem Nfz {ops:Array Oper} {c:ACode} (h:V8 P pf ops=some c):∃n L,c=.drawn n L:=by
 obtain ⟨st,h⟩:∃st,Xd P pf st ops=some c:=by
  unfold V8 at h
  split at h
  ·rename_i hc;cases h;exact ⟨_,hc⟩
  ·exact ⟨_,h⟩
 unfold Xd at h
 obtain ⟨l,hl,h⟩:=NZ h
 simp only at h
 repeat' (split at h)
 all_goals first
  | (cases h;done)
  | (cases h;exact ⟨_,_,rfl⟩)
theorem Nsf {md:Md} {C:Code} {c:ACode} (h:trX P pf md C=some c):XC P pf md C c:=by
 cases md<;>cases C<;>simp only [trX,X8,TY,Tn] at h<;>try (cases h;done)
 all_goals first
  | (cases h;first | exact .skip | exact .exit (by intros;nofun) | exact .exitR | exact .ret | exact .retM | exact .retR;done)
  | (rename_i id ops d
     cases d with
     | false=>simp only [Nx,if_false] at h;obtain ⟨l,hl,h⟩:=NZ h;cases h;exact .plain hl
     | true=>simp only [if_true] at h;obtain ⟨n,L,rfl⟩:=Nfz h;exact .drawn h
     done)
  | (obtain ⟨f,a,h⟩:=NZ h;obtain ⟨g,b,h⟩:=NZ h;cases h;exact .seq a b;done)
  | (obtain ⟨f,a,h⟩:=NZ h;cases h;first | exact .block a | exact .loop a;done)
  | (split at h
     case isFalse=>cases h
     rename_i e
     obtain ⟨f,a,h⟩:=NZ h;obtain ⟨g,b,h⟩:=NZ h;cases h;first | exact .cond e a b | exact .rangeF e a b
     done)
inductive KRel (P:Program) (pf:FuncId->Bool):Md->List Nat->List AItem->List Item->Prop
 | nilN:KRel P pf .n [] [] []
 | nilM {ms:List Nat}:KRel P pf .m ms (.code .retM::ms.map .mark) []
 | nilR {i:Nat}:KRel P pf (.r i) [] [.round i] []
 | code {md ms c C k K} (h:trX P pf md C=some c) (t:KRel P pf md ms k K):KRel P pf md ms (.code c::k) (.code C::K)
 | inBlock {md ms id k K} (t:KRel P pf md ms k K):KRel P pf md ms (.inBlock id::k) (.inBlock id::K)
 | inLoop {md ms c C k K} (h:trX P pf md C=some c) (t:KRel P pf md ms k K):KRel P pf md ms (.inLoop c::k) (.inLoop C::K)
 | begin {i ms k K} (t:KRel P pf (.r i) ms k K):KRel P pf (.r i) ms (.begin i::k) (.beginRound::K)
theorem Ncf {id:Nat}:∀(ms:List Nat),RA id (ms.map .mark)=none
 | []=>rfl
 | i::ms=>by simp only [Oc,RA];exact Ncf ms
theorem KRel.exit {md:Md} {ms:List Nat} {id:Nat} {k k':List AItem} {K:List Item} (h:KRel P pf md ms k K) (he:RA id k=some k'):∃K',exitTo id K=some K'/\KRel P pf md ms k' K':=by
 induction h with
 | nilN=>simp [RA] at he
 | nilM=>simp only [RA,Ncf] at he;cases he
 | nilR=>simp [RA] at he
 | code h t ih=>simp only [RA] at he;simp only [exitTo];exact ih he
 | inLoop h t ih=>simp only [RA] at he;simp only [exitTo];exact ih he
 | begin t ih=>simp only [RA] at he;simp only [exitTo];exact ih he
 | inBlock t ih=>
   simp only [RA] at he
   simp only [exitTo,beq_iff_eq]
   split at he
   ·rename_i e;rw [Ni e];cases he;exact ⟨_,rfl,t⟩
   ·rename_i e;rw [Nh e];exact ih he
theorem KRel.noExit {md:Md} {ms:List Nat} {id:Nat} {k:List AItem} {K:List Item} (h:KRel P pf md ms k K) (he:RA id k=none):exitTo id K=none:=by
 induction h with
 | nilN=>rfl
 | nilM=>rfl
 | nilR=>rfl
 | code h t ih=>simp only [RA] at he;simp only [exitTo];exact ih he
 | inLoop h t ih=>simp only [RA] at he;simp only [exitTo];exact ih he
 | begin t ih=>simp only [RA] at he;simp only [exitTo];exact ih he
 | inBlock t ih=>
   simp only [RA] at he
   simp only [exitTo,beq_iff_eq]
   split at he
   ·cases he
   ·rename_i e;rw [Nh e];exact ih he
theorem KRel.roundOf {i:Nat} {ms:List Nat} {k:List AItem} {K:List Item} (h:KRel P pf (.r i) ms k K):roundOf k=some i:=by
 generalize hm:Md.r i=md at h
 induction h with
 | nilN=>cases hm
 | nilM=>cases hm
 | nilR=>cases hm;rfl
 | code h t ih=>simp only [AM.roundOf];exact ih hm
 | inLoop h t ih=>simp only [AM.roundOf];exact ih hm
 | begin t ih=>simp only [AM.roundOf];exact ih hm
 | inBlock t ih=>simp only [AM.roundOf];exact ih hm
theorem Nay:∀(ms:List Nat),marks (ms.map .mark)=ms.reverse
 | []=>rfl
 | i::ms=>by simp only [Oc,marks,Nay ms,List.reverse_cons]
theorem KRel.marks {ms:List Nat} {k:List AItem} {K:List Item} (h:KRel P pf .m ms k K):marks k=ms.reverse:=by
 generalize hm:Md.m=md at h
 induction h with
 | nilN=>cases hm
 | nilM=>simp only [AM.marks];exact Nay _
 | nilR=>cases hm
 | code h t ih=>simp only [AM.marks];exact ih hm
 | inLoop h t ih=>simp only [AM.marks];exact ih hm
 | begin t ih=>cases hm
 | inBlock t ih=>simp only [AM.marks];exact ih hm
theorem KRel.addMark {ms:List Nat} {k:List AItem} {K:List Item} (h:KRel P pf .m ms k K) (i:Nat):KRel P pf .m (ms++[i]) (k++[.mark i]) K:=by
 generalize hm:Md.m=md at h
 induction h with
 | nilN=>cases hm
 | @nilM ms=>have:(KRel P pf .m (ms++[i]) (.code .retM::(ms++[i]).map .mark) []):=.nilM
             simpa using this
 | nilR=>cases hm
 | code h t ih=>subst hm;exact .code h (ih rfl)
 | inLoop h t ih=>subst hm;exact .inLoop h (ih rfl)
 | begin t ih=>cases hm
 | inBlock t ih=>subst hm;exact .inBlock (ih rfl)
def Nfx (lim:Nat) (σ:PK):List Nat->List Deferred->Prop
 | [],ds=>ds=[]
 | i::l,ds=>∃L a,lim<=i/\σ i=some L/\ds={ target:=.collected L.blk,args:=#[] }::a/\Nfx lim σ l a
theorem Nfx.mono {lim:Nat} {σ τ:PK} (a:PK.le σ τ):∀{l:List Nat} {ds:List Deferred},Nfx lim σ l ds->Nfx lim τ l ds
 | [],_,h=>h
 | i::l,_,⟨L,ds',h0,h1,h2,h3⟩=>⟨L,ds',h0,a _ _ h1,h2,Nfx.mono a h3⟩
theorem Inv.pad (h:Inv (Prg.mk P pf) W lim σ H w) (n:Nat):Inv (Prg.mk P pf) W lim σ (H++List.replicate n .dead) w:=by
 have get:∀(j:Nat) b,(H++List.replicate n Blk.dead)[j]? = some b->alive b=true->H[j]? = some b:=fun j b a c=>by
  by_cases d:j<H.length
  ·rw [N6 d] at a;exact a
  ·rw [Ob (by omega),Pv] at a
   split at a
   ·cases a;simp [alive] at c
   ·cases a
 exact ⟨fun i b a c=>h.blk i b (get i b a c) c,fun i j bi bj Li Lj hi d e ho c=>h.inj i j bi bj Li Lj (get i bi hi (PP ho)) (get j bj d c) e ho c,
  fun i b L a ho=>h.wr i b L (get i b a (PP ho)) ho,h.fresh,fun i hi=>h.dom i (by simp at hi;omega)⟩
theorem Nh1 {fr:Nat->Value} {N:Nat} {a:Act} (hs:State (Prg.mk P pf) ds W lim σ N fr H a w) {r:ResultVar} {k:ARes} (d:Ms P r=some k) {v:Value} (e:ND fr H k=some v) :
  ∃v',(match r with | .tmp t=>pure (a.tmps.getD t undef) | .cell b t=>do loadVar t (<-asAddr (a.tmps.getD b undef)):Sem Value).run P w=.ok v' w/\VRel σ v v':=by
 cases r with
 | tmp t=>
   simp only [Ms] at d;cases d
   simp only [ND] at e;cases e
   exact ⟨_,rfl,hs.fr.val t⟩
 | cell b t=>
   simp only [Ms] at d
   obtain ⟨n,hn,d⟩:=NZ d
   obtain ⟨l,f,d⟩:=NZ d
   have g:=hs.fr.val b
   cases l with
   | true=>
     simp at d;subst d
     simp only [ND] at e
     split at e
     case h_2=>cases e
     rename_i p hp
     simp only [Nc] at e
     obtain ⟨c,hc,rfl⟩:=e
     rw [hp] at g
     obtain ⟨L,hL,j,h2⟩:=g.ptr_left
     obtain ⟨v',h,i⟩:=Nby (P:=P) hs.inv f hn hL hc
     exact ⟨v',by simp only [h2];simp [asAddr,h],i⟩
   | false=>
     simp at d;subst d
     simp only [ND] at e
     split at e
     case h_2=>cases e
     rename_i p hp
     rw [hp] at g
     obtain ⟨L,hL,j,h2⟩:=g.ptr_left
     obtain ⟨v',h,i⟩:=Nbz (P:=P) hs.inv f hL e
     exact ⟨v',by simp only [h2];simp [asAddr,h],i⟩
theorem M5 {fr:Nat->Value} {N:Nat} {a:Act} (hs:State (Prg.mk P pf) ds W lim σ N fr H a w):∀{f:List ResultVar} {c:List ARes} {vs:List Value},f.mapM (Ms P)=some c->UI fr H c=some vs->
  ∃d,(f.mapM (fun r=>(match r with | .tmp t=>pure (a.tmps.getD t undef) | .cell b t=>do loadVar t (<-asAddr (a.tmps.getD b undef)):Sem Value))).run P w=.ok d w/\OJ σ vs d
 | [],c,vs,h,hv=>by
   simp at h;subst h
   simp [UI] at hv;subst hv
   exact ⟨[],by simp,OJ.nil⟩
 | r::f,c,vs,h,hv=>by
   rw [List.mapM_cons] at h
   obtain ⟨b,g,h⟩:=NZ h
   obtain ⟨k,e,h⟩:=NZ h
   cases h
   simp only [UI] at hv
   split at hv
   case h_2=>cases hv
   rename_i v j h1 h2
   cases hv
   obtain ⟨v',k1,k2⟩:=Nh1 hs g h1
   obtain ⟨d,k3,i⟩:=M5 hs e h2
   refine ⟨v'::d, ?_,OJ.cons k2 i⟩
   rw [List.mapM_cons]
   simp only [Sem.run_bind,k1,k3,Result.andThen_ok,Sem.run_pure]
theorem Z5 {fr:Nat->Value} {N:Nat} {a:Act} (hs:State (Prg.mk P pf) ds W lim σ N fr H a w) {fn:Func} {d:List ARes} (e:fn.results.toList.mapM (Ms P)=some d) {v:Value} (c:result fr H d=some v) :
  ∃v',(results fn a.tmps).run P w=.ok v' w/\VRel σ v v':=by
 unfold result at c
 cases hr:UI fr H d with
 | none=>rw [hr] at c;cases c
 | some vs=>
   obtain ⟨b,k1,k2⟩:=M5 hs e hr
   rw [hr] at c
   unfold results
   rw [Array.mapM_eq_mapM_toList]
   simp only [Sem.run_bind,Sem.run_map]
   erw [k1]
   simp only [Result.andThen_ok,Sem.run_pure]
   refine ⟨_,rfl, ?_⟩
   match vs,b,k2 with
   | [],b,k2=>
     have:b=[]:=by have:=k2.1;simp at this;exact List.length_eq_zero_iff.1 this.symm
     subst this
     simp at c;subst c
     exact .atom rfl
   | [x],b,k2=>
     have hl:=k2.1
     match b,hl,k2 with
     | [y],_,k2=>simp at c;subst c;exact k2.head
   | x::y::zs,b,k2=>
     have hl:=k2.1
     match b,hl,k2 with
     | x'::y'::zs',_,k2=>
       simp at c;subst c
       have:¬((x'::y'::zs').toArray.size=1):=by simp
       rw [dif_neg this]
       exact VRel.tuple_iff.2 k2
theorem Inv.loop (h:Inv (Prg.mk P pf) W lim σ H w) {i:Nat} {x:LoopB} {L:Loc} (a:NF H i=.loop x) (hL:σ i=some L):∃lp,w.heap[L.blk]? = some (.loop lp)/\LoopRel (Prg.mk P pf) σ x lp:=by
 obtain ⟨b,h1,h2⟩:=h.blk i _ (RD a rfl) rfl
 rw [hL] at h1;cases h1
 exact h2
theorem Ndm {b:Frame} {a:Act} {todo:List Item} {cs:List Frame}:∀(l:List Nat) (ds:List Deferred) {H H':NE} {w:World},Nfx lim σ l ds->Inv (Prg.mk P pf) W lim σ H w->shut lim l H=some H'->
  ∃w',Steps P (lone { b.atR { a with defers:=ds } todo with mode:=.returning } cs w) (lone { b.atR { a with defers:=[] } todo with mode:=.returning } cs w')/\Inv (Prg.mk P pf) W lim σ H' w'/\Stp W w w'/\H'.length=H.length
 | [],ds,H,H',w,hd,hi,hs=>by
   cases hd;cases hs
   exact ⟨w,.refl _ _,hi,Stp.refl _ _,rfl⟩
 | i::l,ds,H,H',w,hd,hi,hs=>by
   obtain ⟨L,c,e,h1,rfl,j⟩:=hd
   simp only [shut] at hs
   split at hs
   case h_2=>cases hs
   rename_i f
   rw [Ni e] at hs
   obtain ⟨p,d,g⟩:=hi.blk i _ (RD f rfl) rfl
   rw [h1] at d;cases d
   obtain ⟨k,m⟩:=hi.putLoop (o:=.deferred none) (b':=.dead) f rfl h1 e trivial (fun h=>by simp [alive] at h)
   obtain ⟨w',k1,k2,k3,n⟩:=Ndm l c j k hs
   refine ⟨w',Steps.head (step_collected (fr:={ b.atR { a with defers:=_::c } todo with mode:=.returning }) (by simp) rfl rfl (run_takeDeferred g)) k1,k2,m.trans k3,by simpa using n⟩
theorem Ney (h:Inv (Prg.mk P pf) W lim σ H w) {i:Nat} {L:Loc} (hL:σ i=some L) (hl:lim<=i) {j:Option ACode} {J:Option Code}
  (a:match j with | none=>J=none | some c=>∃C,J=some C/\TY P pf C=some c) {v:Value} (he:endRound i j H=some (v,H')) :
  ∃w',(Instr.endRound L.blk J).run P w=.ok v w'/\VRel σ v v/\Inv (Prg.mk P pf) W lim σ H' w'/\Stp W w w':=by
 unfold endRound at he
 split at he
 case h_2=>cases he
 rename_i x e
 obtain ⟨lp,h1,h2⟩:=h.loop e hL
 have d:J.isNone=j.isNone:=by
  cases j with
  | none=>simp only at a;subst a;rfl
  | some c=>obtain ⟨C,rfl,_⟩:=a;rfl
 have b:L.blk<w.heap.size:=(Array.getElem?_eq_some_iff.1 h1).1
 simp only [Option.some.injEq,Prod.mk.injEq] at he
 obtain ⟨rfl,rfl⟩:=he
 obtain ⟨f,g⟩:=h.putLoop (o:=.loop { lp with state:=if J.isNone then .ready else .done,pending:=J }) (b':=.loop { x with st:=if j.isNone then 0 else 2,pend:=j }) e rfl hL hl
  ⟨_,World.putObj_heap_same b,by rw [d];cases j<;>rfl,a,h2.size,h2.val,h2.params,h2.assign,h2.body⟩ (fun _=>rfl)
 exact ⟨_,by rw [run_endRound J h1,d],.atom rfl,f,g⟩
end
section
variable {P:Program} {E:Env} {W:Nat->Prop} {lim:Nat} {σ:PK} {H H':NE} {w:World} {ds:List Deferred} {ro:Option Nat}
theorem Nh2 {C:Tc} (b:CallOkS (Prg.mk P (Env.pure E)) C) {pf:FuncId->Bool} {id:Nat} {ops:Array Oper} {l:List AIns} (hl:ops.toList.mapM (Yo P pf ops)=some l) {N:Nat} {fr:Nat->Value} {a:Act}
  (hs:State (Prg.mk P (Env.pure E)) ds W lim σ N fr H a w) {LL} (d:Yg C N lim l fr H=some LL):(Code.region id ops false).wpIn (WF ro) 0 P (fun e a' w'=>∃r∈LL,N47 (Prg.mk P (Env.pure E)) ds W lim σ N r.1 H r.2 w e a' w') a w:=by
 refine wpIn_region ?_
 rw [List.range_eq_range']
 exact Z6 b W lim σ H w hl ops.size 0 fr H a w σ LL (fun r hr a k i q1 q2 q3 f g h=>⟨r,hr,rfl,i,q1,q2,q3,f,g,h⟩) (by simp) hs (Stp.refl _ _) (PK.le_refl _) (Grow.refl _ _) (fun j c=>absurd rfl c) (Nd _) (by simpa using d)
theorem Todo.start {ops:Array Oper} {ord:List Nat} (hm:∀i,i∈ord↔i<ops.size):Todo ops ord (Array.replicate ops.size false) ord:=by
 refine ⟨fun i=>?_,List.Sublist.refl _,by simp,fun i o ho hl=>?_⟩
 ·rw [hm]
  constructor
  ·intro hi
   refine ⟨hi, ?_⟩
   rw [N1,N9 (by simpa using hi)]
   simp
  ·exact fun h=>h.1
 ·exfalso
  rw [N1,Array.getElem?_replicate] at hl
  split at hl<;>simp at hl
theorem Nh3 {C:TP} (l:CallOk (Prg.mk P (Env.pure E)) C) {pf:FuncId->Bool} (hm:P.follows .mixedOrders=true) {id:Nat} {ops:Array Oper} {n:Nat} {L:List AIns} (hl:V8 P pf ops=some (.drawn n L)) {N:Nat} {fr fr':Nat->Value} {a:Act}
  (hs:State (Prg.mk P (Env.pure E)) ds W lim σ N fr H a w) (p:YJ C N lim (some H.length) L fr (H++List.replicate n .dead)=some (fr',H')):(Code.region id ops true).wpIn (WF ro) 0 P (fun e a' w'=>e=.normal/\∃k,State (Prg.mk P (Env.pure E)) ds W lim k N fr' H' a' w'/\Stp W w w'/\PK.le σ k/\(∀j,k j≠σ j->H.length<=j)) a w:=by
 refine wpIn_region_any hm ?_
 obtain ⟨ord,L0,pl,rfl⟩:=Np3 hl
 have d:ord.length=ops.size:=by
  have h1:ord.Perm (List.range ops.size):=(List.perm_ext_iff_of_nodup pl.nodup List.nodup_range).2 fun i=>by rw [pl.mem,List.mem_range]
  rw [h1.length_eq,O7]
 have h:State (Prg.mk P (Env.pure E)) ds W lim σ N fr (H++List.replicate n .dead) a w.drew:=⟨hs.fr,(hs.inv.pad n).drew,by have:=hs.lim;simp;omega⟩
 refine Nhh l pl fr' H' W lim hs.lim σ (H++List.replicate n .dead) w.drew (fun a v s q1 q2 q3 t q u=>⟨rfl,s,q1,Stp.drew.trans q2,q3,q⟩) ops.size _ ord fr _ a w.drew σ d (Todo.start pl.mem) h (Stp.refl _ _) (PK.le_refl _) (Grow.refl _ _)
  (fun j o=>absurd rfl o) (Nd _) ⟨by simp,fun r hr b c m=>?_,fun r hr=>hs.inv.dom _ (by omega),fun r hr=>?_⟩ ?_
 ·rw [Ob (by omega),Pv] at c
  split at c
  ·cases c;simp [alive] at m
  ·cases c
 ·obtain ⟨b,c,g⟩:=List.mem_filterMap.1 hr
  have f:b<L0.length:=by rw [pl.len];exact (pl.mem b).1 c
  exact pl.dest b _ r (by rw [Na,Nf f];rfl) (Naz g)
 ·exact p
def Fin (P:Program) (md:Md) (b:Frame) (cs:List Frame) (m:Machine) (v':Value) (w':World):Prop:=
 match md with
 | .r _=>∃c cs',cs=c::cs'/\m=lone (c.finish v') cs' w'
 | _=>∃fr,m=lone fr cs w'/\fr.fn=b.fn/\fr.leaving P w' (.returned v')
def Ya (P:Program) (pf:FuncId->Bool) (W:Nat->Prop) (lim:Nat) (σ:PK) (md:Md) (v:Value) (H H':NE) (w:World) (b:Frame) (K:List Item) (cs:List Frame) (a:Act):Prop:=
 ∃m v' w' c,Steps P (lone (b.atR a K) cs w) m/\Fin P md b cs m v' w'/\VRel c v v'/\Inv (Prg.mk P pf) W lim c H' w'/\Stp W w w'/\PK.le σ c/\∀j,c j≠σ j->H.length<=j
theorem Ya.step {pf:FuncId->Bool} {md:Md} {v:Value} {b:Frame} {K c:List Item} {cs:List Frame} {a:Act} (h:step P (lone (b.atR a K) cs w)=.next (lone (b.atR a c) cs w)) (k:Ya P pf W lim σ md v H H' w b c cs a):Ya P pf W lim σ md v H H' w b K cs a:=by
 obtain ⟨a',w',d,fr',h1,h2⟩:=k
 exact ⟨a',w',d,fr',Steps.head h h1,h2⟩
theorem Ya.steps {pf:FuncId->Bool} {md:Md} {v:Value} {b:Frame} {K i:List Item} {cs:List Frame} {a l:Act} {g:World} {c:PK} {H1:NE} (h:Steps P (lone (b.atR a K) cs w) (lone (b.atR l i) cs g)) (f:Stp W w g) (d:PK.le σ c) (hd:∀j,c j≠σ j->H.length<=j) (t:H.length<=H1.length)
  (k:Ya P pf W lim c md v H1 H' g b i cs l):Ya P pf W lim σ md v H H' w b K cs a:=by
 obtain ⟨m,v',w',s,h1,h2,n,o,h5,p,q⟩:=k
 refine ⟨m,v',w',s,Steps.trans h h1,h2,n,o,f.trans h5,PK.le_trans d p,fun j r=>?_⟩
 apply N4
 intro hc
 have e1:c j=σ j:=N4 fun e=>hc (hd j e)
 have:=q j (fun e=>r (e.trans e1))
 omega
def QR (P:Program) (pf:FuncId->Bool) (W:Nat->Prop) (lim:Nat) (σ:PK) (md:Md) (R:List (Value×NE)) (H:NE) (w:World) (b:Frame) (K:List Item) (cs:List Frame) (a:Act):Prop:=
 ∃r∈R,Ya P pf W lim σ md r.1 H r.2 w b K cs a
theorem QR.step {pf:FuncId->Bool} {md:Md} {R:List (Value×NE)} {b:Frame} {K c:List Item} {cs:List Frame} {a:Act} (h:step P (lone (b.atR a K) cs w)=.next (lone (b.atR a c) cs w)) (k:QR P pf W lim σ md R H w b c cs a):QR P pf W lim σ md R H w b K cs a:=by
 obtain ⟨r,hr,k⟩:=k
 exact ⟨r,hr,k.step h⟩
theorem QR.steps {pf:FuncId->Bool} {md:Md} {R i:List (Value×NE)} {b:Frame} {K g:List Item} {cs:List Frame} {a l:Act} {e:World} {f:PK} {H1:NE} (h:Steps P (lone (b.atR a K) cs w) (lone (b.atR l g) cs e)) (d:Stp W w e) (c:PK.le σ f) (hd:∀j,f j≠σ j->H.length<=j) (m:H.length<=H1.length)
  (k:QR P pf W lim f md i H1 e b g cs l) (n:∀x∈i,x∈R):QR P pf W lim σ md R H w b K cs a:=by
 obtain ⟨r,hr,k⟩:=k
 exact ⟨r,n r hr,k.steps h d c hd m⟩
def Cx (P:Program) (σ:PK) (md:Md) (af:AFunc) (b:Frame) (cs:List Frame):Prop:=
 b.kind=.normal/\match md with
 | .r i=>∃L c cs',b.roundOf=some L.blk/\σ i=some L/\cs=c::cs'
 | _=>b.roundOf=none/\∃fn,P.funcs[b.fn]? = some fn/\fn.results.toList.mapM (Ms P)=some af.results
theorem Cx.mono {σ τ:PK} (a:PK.le σ τ) {md:Md} {af:AFunc} {b:Frame} {cs:List Frame} (h:Cx P σ md af b cs):Cx P τ md af b cs:=by
 refine ⟨h.1, ?_⟩
 have h2:=h.2
 cases md with
 | r i=>obtain ⟨L,c,cs',d,e,f⟩:=h2;exact ⟨L,c,cs',d,a _ _ e,f⟩
 | _=>exact h2
theorem Inv.enterLoop (h:Inv (Prg.mk P (Env.pure E)) W lim σ H w) {x:LoopB} {lp:Loop} (z:LoopRel (Prg.mk P (Env.pure E)) σ x lp) :
  ∃g,Inv (Prg.mk P (Env.pure E)) W lim g (H++[.dfr,.loop x]) ((w.alloc (.deferred (some []))).alloc (.loop lp))/\PK.le σ g/\g H.length=some ⟨w.heap.size,0,0⟩/\g (H.length+1)=some ⟨w.heap.size+1,0,0⟩/\∀j,g j≠σ j->H.length<=j:=by
 have c:∀{H:NE} {w:World} {σ:PK} (h:Inv (Prg.mk P (Env.pure E)) W lim σ H w) {b:Blk} {o:Obj},owned b=true->UB (Prg.mk P (Env.pure E)) (σ.put H.length ⟨w.heap.size,0,0⟩) (w.alloc o) ⟨w.heap.size,0,0⟩ b->Inv (Prg.mk P (Env.pure E)) W lim (σ.put H.length ⟨w.heap.size,0,0⟩) (H++[b]) (w.alloc o):=by
  intro H w σ h b o ho n
  have y:Inv (Prg.mk P (Env.pure E)) W lim σ H (w.alloc o):=h.world (by simp) fun b n=>by rw [Uu,Py];rw [Nh (by omega)]
  obtain ⟨r,s,B,t,C,D,F⟩:=TF (dest:=none) (b:=b) (H:=H) (show place none b H=(H.length,H++[b]) from rfl) (fun d e=>by cases e)
  refine y.adopt r s t (h.dom _ (Nd _)) n ho (h.fresh _ (Nd _)) fun j bj Lj v k m i e=>?_
  obtain ⟨A,h1,h2⟩:=h.blk j bj k m
  rw [i] at h1;cases h1
  have:=h2.lt m
  simp at e
  omega
 have p:=c h (b:=.dfr) (o:=.deferred (some [])) rfl (by show (w.alloc _).heap[_]? = _;simp [Uu])
 have f:PK.le σ (σ.put H.length ⟨w.heap.size,0,0⟩):=PK.le_put (h.dom _ (Nd _))
 have l:=p.dom (H.length+1) (by simp)
 have a:=PK.le_put (L:=⟨w.heap.size+1,0,0⟩) l
 have q:=c p (b:=.loop x) (o:=.loop lp) rfl (by
  refine ⟨lp,World.alloc_heap_new _ _, ?_⟩
  simp only [Nm,Nl,Ns,World.size_alloc] at a⊢
  exact (z.mono f).mono a)
 simp only [Nm,Nl,Ns,World.size_alloc,Nn,Ox,Ok] at q
 refine ⟨_,q,PK.le_trans f a, ?_,PK.put_same,fun j u=>?_⟩
 ·simp [PK.put]
 ·apply N4
  intro hc
  refine u ?_
  simp only [PK.put]
  rw [Nh (by omega),Nh (by omega)]
theorem Nao (hE:EnvOk P E) (n:Nat) (hC:∀m,m<n->CallOkS (Prg.mk P (Env.pure E)) (Rw E m)):∀(m:Nat),m<=n->∀{md:Md} {ms:List Nat} {ds:List Deferred} {af:AFunc} {k:List AItem} {fr:Nat->Value} {σ:PK} {H:NE} {w:World} {R:List (Value×NE)} {K:List Item} {a:Act} (b:Frame) (cs:List Frame),
   OZ E m af lim k fr H=some R->KRel P E.pure md ms k K->(md=.n->ms=[])->Nfx lim σ ms.reverse ds->Cx P σ md af b cs->(∀i,md=.r i->lim<=i)->State (Prg.mk P (Env.pure E)) ds W lim σ af.ntmps fr H a w->
   QR P E.pure W lim σ md R H w b K cs a:=by
 intro m
 induction m using Nat.strongRecOn with
 | ind m ih=>
 intro hm md ms ds af k fr σ H w R K a b cs hx hK hms hds hcx hri hs
 cases m with
 | zero=>simp [OZ] at hx
 | succ m=>
 have ih':∀{k:List AItem} {K:List Item},OZ E m af lim k fr H=some R->KRel P E.pure md ms k K->QR P E.pure W lim σ md R H w b K cs a:=fun hx hK=>ih m (by omega) (by omega) b cs hx hK hms hds hcx hri hs
 have finN:md=.n->∀{todo:List Item},step P (lone (b.atR a K) cs w)=.next (lone { b.atR a todo with mode:=.returning } cs w)->one ((result fr H af.results).map (·,H))=some R->QR P E.pure W lim σ md R H w b K cs a:=fun hmd todo hst h=>by
  subst hmd
  rw [hms rfl] at hds
  cases hds
  obtain ⟨hk,hro,fn,hfn,hrs⟩:=hcx
  obtain ⟨x,h',rfl⟩:=Ve h
  simp only [Nc] at h'
  obtain ⟨v,h1,rfl⟩:=h'
  obtain ⟨v',h7,h8⟩:=Z5 hs hrs h1
  exact ⟨_,Nj.2 rfl,_,v',w,σ,.one hst,⟨_,rfl,rfl,rfl,hs.fr.defers,hk,fn,hfn,h7⟩,h8,hs.inv,Stp.refl _ _,PK.le_refl _,fun j hj=>absurd rfl hj⟩
 have Vs:md=.m->marks k=marks k->∀{todo:List Item} {ks:List AItem},marks ks=ms.reverse->step P (lone (b.atR a K) cs w)=.next (lone { b.atR a todo with mode:=.returning } cs w)->
   (match shut lim (marks ks) H with | some H'=>one ((result fr H' af.results).map (·,H')) | none=>none)=some R->QR P E.pure W lim σ md R H w b K cs a:=fun hmd _ todo ks hmk hst h=>by
  subst hmd
  obtain ⟨hk,hro,fn,hfn,hrs⟩:=hcx
  split at h
  case h_2=>cases h
  rename_i H1 hsh
  rw [hmk] at hsh
  obtain ⟨w1,k1,k2,k3,k4⟩:=Ndm (b:=b) (a:=a) (todo:=todo) (cs:=cs) _ ds hds hs.inv hsh
  obtain ⟨x,h',rfl⟩:=Ve h
  simp only [Nc] at h'
  obtain ⟨v,h1,rfl⟩:=h'
  have hs1:State (Prg.mk P (Env.pure E)) ds W lim σ af.ntmps fr H1 a w1:=⟨hs.fr,k2,by rw [k4];exact hs.lim⟩
  obtain ⟨v',h7,h8⟩:=Z5 hs1 hrs h1
  have ea:{ a with defers:=ds }=a:=by rw [<-hs.fr.defers]
  rw [ea] at k1
  exact ⟨_,Nj.2 rfl,_,v',w1,σ,Steps.head hst k1,⟨_,rfl,rfl,rfl,rfl,hk,fn,hfn,h7⟩,h8,k2,k3,PK.le_refl _,fun j hj=>absurd rfl hj⟩
 have finR:∀{i:Nat} {j:Option ACode} {J:Option Code},md=.r i->(match j with | none=>J=none | some c=>∃C,J=some C/\TY P E.pure C=some c)->
   (∀{L c cs' v w'},b.roundOf=some L->b.kind=.normal->cs=c::cs'->(Instr.endRound L J).run P w=.ok v w'->step P (lone (b.atR a K) (c::cs') w)=.next (lone (c.finish v) cs' w'))->
   one (endRound i j H)=some R->QR P E.pure W lim σ md R H w b K cs a:=fun {i j J} hmd hj hst h=>by
  subst hmd
  obtain ⟨hk,L,c,cs',hro,hL,rfl⟩:=hcx
  obtain ⟨⟨v,H'⟩,h',rfl⟩:=Ve h
  obtain ⟨w1,h1,h2,h3,h4⟩:=Ney hs.inv hL (hri i rfl) hj h'
  exact ⟨_,Nj.2 rfl,_,v,w1,σ,.one (hst hro hk rfl h1),⟨c,cs',rfl,rfl⟩,h2,h3,h4,PK.le_refl _,fun j hj=>absurd rfl hj⟩
 rw [OZ.eq_def] at hx
 simp only at hx
 cases hK with
 | nilN=>exact finN rfl (stepR_end hcx.2.1) hx
 | nilM=>exact Vs rfl rfl (Nay ms) (stepR_end hcx.2.1) hx
 | @nilR i=>
   simp only at hx
   split at hx
   case isFalse=>cases hx
   exact finR rfl (J:=none) rfl (fun {L c cs' v w'} h1 h2 h3 h4=>stepR_round_end h1 h2 h4) hx
 | inBlock t=>exact QR.step stepR_inBlock (ih' hx t)
 | inLoop h t=>exact QR.step stepR_inLoop (ih' hx (.code h (.inLoop h t)))
 | @begin i ms k K t=>
   simp only at hx
   split at hx
   case h_2=>cases hx
   rename_i x hb
   split at hx
   case isFalse=>cases hx
   rename_i hc
   obtain ⟨hk,L,c,cs',hro,hL,rfl⟩:=hcx
   obtain ⟨lp,h1,h2⟩:=hs.inv.loop hb hL
   have hlt:L.blk<w.heap.size:=(Array.getElem?_eq_some_iff.1 h1).1
   obtain ⟨i1,i2⟩:=hs.inv.putLoop (o:=.loop { lp with state:=.busy }) (b':=.loop { x with st:=1 }) hb rfl hL hc.2
    ⟨_,World.putObj_heap_same hlt,rfl,h2.pend,h2.size,h2.val,h2.params,h2.assign,h2.body⟩ (fun _=>rfl)
   have hst:lp.state=.ready:=by rw [h2.st,hc.1];rfl
   refine QR.steps (.one (stepR_beginRound hro (run_beginRound h1 hst))) i2 (PK.le_refl _) (fun j hj=>absurd rfl hj) (by simp) (ih m (by omega) (by omega) b _ hx t hms hds ⟨hk,L,c,cs',hro,hL,rfl⟩ hri ⟨hs.fr,i1,by have:=hs.lim;simpa using this⟩) (fun x hx=>hx)
 | @code md ms c C k K h t=>
   cases Nsf h with
   | skip=>exact QR.step stepR_skip (ih' hx t)
   | @plain _ id ops l hl=>
     simp only at hx
     obtain ⟨LL,h1,h2⟩:=Nd4 E l m af lim k fr H _ hx
     have hCm:=hC (m-1) (by omega)
     obtain ⟨e,a1,w1,hq,harr⟩:=Nh2 (ro:=b.roundOf) hCm (id:=id) hl hs h1 b K cs rfl trivial (room_wide _)
     obtain ⟨r,hr,rfl,σ1,q1,q2,q3,q4,q5,q6⟩:=hq
     obtain ⟨m1,R',g1,g2,g3⟩:=h2 r hr
     exact QR.steps (StepsIn.steps harr) q2 q3 q5 q6 (ih m1 (by omega) (by omega) b cs g2 t hms (hds.mono q3) (hcx.mono q3) hri q1) g3
   | @drawn _ id ops nn L hdr=>
     simp only at hx
     obtain ⟨m1,fr1,H1,h1,h2,h3⟩:=Ngt E L m af lim H.length k fr _ _ hx
     have hCm:=hC (m-1) (by omega)
     obtain ⟨e,a1,w1,hq,harr⟩:=Nh3 (ro:=b.roundOf) hCm.det hE.mixed (id:=id) hdr hs h2 b K cs rfl trivial (room_wide _)
     obtain ⟨rfl,σ1,q1,q2,q3,q5⟩:=hq
     have hlen:H.length<=H1.length:=by
      have key:∀(l:List AIns) (fr fr1:Nat->Value) (H0 H1:NE),lim<=H0.length->YJ (det (Rw E (m-1))) af.ntmps lim (some H.length) l fr H0=some (fr1,H1)->H0.length<=H1.length:=by
       intro l
       induction l with
       | nil=>intro fr fr1 H0 H1 _ hx;simp [YJ] at hx;rw [hx.2];exact Nd _
       | cons i l ih=>
         intro fr fr1 H0 H1 hl hx
         obtain ⟨f2,H2,g1,g2⟩:=Xt hx
         obtain ⟨g3,_⟩:=Nel hCm.grow.det g1 (fun b e=>by cases e;exact hs.lim) hl
         have:=ih _ _ _ _ (by omega) g2
         omega
      have:=key L fr fr1 _ H1 (by have:=hs.lim;simp;omega) h2
      simp at this
      omega
     exact QR.steps (StepsIn.steps harr) q2 q3 q5 hlen (ih m1 (by omega) (by omega) b cs h3 t hms (hds.mono q3) (hcx.mono q3) hri q1) (fun x hx=>hx)
   | seq hx' hy'=>exact QR.step stepR_seq (ih' hx (.code hx' (.code hy' t)))
   | @cond _ o x y x' y' hok hx' hy'=>
     have hev:=hs.fr.ev hok
     simp only at hx
     cases he:ev fr o<;>rw [he] at hx hev<;>(try (cases hx;done))
     rename_i t'
     have hb:=hev.bool_left
     cases t' with
     | true=>exact QR.step (stepR_cond hb) (ih' hx (.code hx' t))
     | false=>exact QR.step (stepR_cond hb) (ih' hx (.code hy' t))
   | block hx'=>exact QR.step stepR_block (ih' hx (.code hx' (.inBlock t)))
   | loop hx'=>exact QR.step stepR_loop (ih' hx (.code hx' (.inLoop hx' t)))
   | exit hmd=>
     simp only at hx
     split at hx
     case h_2=>cases hx
     rename_i k' hk'
     obtain ⟨K',h1,h2⟩:=t.exit hk'
     exact QR.step (stepR_exit h1) (ih' hx h2)
   | @exitR i id=>
     simp only at hx
     split at hx
     ·rename_i k' hk'
      obtain ⟨K',h1,h2⟩:=t.exit hk'
      exact QR.step (stepR_exit h1) (ih' hx h2)
     ·rename_i hk'
      rw [t.roundOf] at hx
      simp only at hx
      split at hx
      case isFalse=>cases hx
      exact finR rfl (j:=some (.exit id)) (J:=some (.exit id)) ⟨_,rfl,rfl⟩ (fun {L c cs' v w'} h1 h2 h3 h4=>stepR_round_exit h1 h2 (t.noExit hk') h4) hx
   | ret=>exact finN rfl (stepR_ret hcx.2.1) hx
   | retM=>exact Vs rfl rfl t.marks (stepR_ret hcx.2.1) hx
   | retR=>
     simp only at hx
     rw [t.roundOf] at hx
     simp only at hx
     split at hx
     case isFalse=>cases hx
     exact finR rfl (j:=some .retM) (J:=some .ret) ⟨_,rfl,rfl⟩ (fun {L c cs' v w'} h1 h2 h3 h4=>stepR_round_ret h1 h2 h4) hx
   | @rangeF f ps x y x' y' hok hx' hy'=>
     have hCm:=hC m (by omega)
     have hev:=hs.fr.ev hok
     simp only at hx
     split at hx
     case h_2=>cases hx
     rename_i g as hcl
     unfold NC at hcl
     split at hcl
     case h_2=>simp at hcl
     case h_3=>cases hcl
     rename_i g' fi ca hf
     simp only [Option.some.injEq,Prod.mk.injEq,Sum.inl.injEq] at hcl
     obtain ⟨rfl,rfl⟩:=hcl
     rw [hf] at hev
     obtain ⟨fi',ca',hf',hfi,hca⟩:=hev.func_left
     split at hx
     case h_2=>cases hx
     rename_i L2 hcall
     obtain ⟨hk,hro,fn0,hfn0,hrs0⟩:=hcx
     have hxl:LoopRel (Prg.mk P (Env.pure E)) σ ⟨0,none,fr,af.ntmps,ps.toList,x',y'⟩ { state:=.ready,pending:=none,fn:=b.fn,tmps:=a.tmps,params:=ps,assign:=x,body:=y,defers:=w.heap.size }:=
      ⟨rfl,rfl,hs.fr.size,hs.fr.val,rfl,hx',hy'⟩
     obtain ⟨σ1,i1,hle1,hl1,hl2,hch1⟩:=hs.inv.enterLoop hxl
     obtain ⟨fn,g1,g2,g3⟩:=hCm.fn _ _ _ _ _ _ hcall
     have hargs:OJ σ1 (fi.toList++[.func (.yield (H.length+1)) #[] #[]]++ca.toList) (fi'.toList++[.func (.yield (w.heap.size+1)) #[] #[]]++ca'.toList):=
      ((hfi.mono hle1).append (OJ.cons (.yld hl2) OJ.nil)).append (hca.mono hle1)
     have hcalls:=hCm.calls _ _ _ _ _ _ hcall (by have:=hs.lim;simp;omega) W σ1 _ _ i1 hargs
     have hkc:∀v,a.eval (.const v)=v:=fun _=>rfl
     have hbn:fn.body≠none:=fun h=>by rw [h] at g2;cases g2
     have h3':¬(fn.name= "runtime.NumGoroutine"):=by simpa using g3
     have ea:(fi'.toList++[Value.func (.yield (w.heap.size+1)) #[] #[]]++ca'.toList).toArray=fi'++#[Value.func (.yield (w.heap.size+1)) #[] #[]]++ca':=by apply Array.ext';simp
     rw [ea] at hcalls
     have henter:=stepR_rangeFunc (P:=P) (b:=b) (a:=a) (k:=K) (cs:=cs) (w:=w) (g:=f) (ps:=ps) (assign:=x) (body:=y) (f:=g') (args:=fi'++#[Value.func (.yield (w.heap.size+1)) #[] #[]]++ca')
      (show (Instr.enterLoop b.fn a.tmps ps x y b.roundOf).run P w=.ok (w.heap.size+1,[{ target:=.collected w.heap.size,args:=#[] }])
       ((w.alloc (.deferred (some []))).alloc (.loop { state:=.ready,pending:=none,fn:=b.fn,tmps:=a.tmps,params:=ps,assign:=x,body:=y,defers:=w.heap.size })) by rw [hro];exact run_enterLoop_outer _ _ _ _ _)
      (show (resolve a.eval (rangeCall f (w.heap.size+1)) 0).run P _=.ok { target:=.fn (.func g') ca',args:=fi'++#[Value.func (.yield (w.heap.size+1)) #[] #[]] } _ by
       simp [resolve,Deferred.ofValue,hf',hkc];rfl)
      (show (invoke (.fn (.func g') ca') (fi'++#[Value.func (.yield (w.heap.size+1)) #[] #[]])).run P _=.ok (.enter g' _) _ by
       simp [invoke,callFunc,g1,h3',hbn];rfl)
     obtain ⟨e,w3,fr3,⟨⟨v2,H2⟩,hr2,v3,σ3,rfl,q1,q2,q3,q4,q5⟩,hcome,hfr3,hlv⟩:=hcalls (b.atR { a with defers:=[{ target:=.collected w.heap.size,args:=#[] }]++a.defers } (.inRangeFunc (w.heap.size+1)::K)::cs)
     obtain ⟨R',hx,hsub⟩:=UR hx _ hr2
     simp only at hx q2
     split at hx
     case h_2=>cases hx
     rename_i xx hb
     split at hx
     ·cases hx
     rename_i hst
     have hL3:σ3 (H.length+1)=some ⟨w.heap.size+1,0,0⟩:=q4 _ _ hl2
     obtain ⟨lp,h1,h2⟩:=q2.loop hb hL3
     have hnb:lp.state≠.busy:=fun e=>by
      rw [h2.st] at e
      unfold N8t at e
      split at e<;>first | (cases e;done) | skip
      rename_i h;exact hst h
     have hlimx:lim<=H.length+1:=by have:=hs.lim;omega
     obtain ⟨i3,s3⟩:=q2.putLoop (o:=.loop { lp with state:=.exhausted }) (b':=.dead) hb rfl hL3 hlimx trivial (fun h=>by simp [alive] at h)
     have hall:Steps P (lone (b.atR a (.code (.rangeFunc f ps x y)::K)) cs w) (lone (b.atR { a with defers:=[{ target:=.collected w.heap.size,args:=#[] }]++a.defers } ((lp.pending.map Item.code).toList++K)) cs (w3.putObj (w.heap.size+1) (.loop { lp with state:=.exhausted }))):=by
      refine Steps.head henter (Steps.trans hcome (Steps.head (step_leave_returned hlv) ?_))
      rw [finish_atR_inRangeFunc]
      exact .one (stepR_endRangeFunc (run_endLoop h1 hnb))
     have hst1:Stp W w ((w.alloc (.deferred (some []))).alloc (.loop { state:=.ready,pending:=none,fn:=b.fn,tmps:=a.tmps,params:=ps,assign:=x,body:=y,defers:=w.heap.size })):=
      (Stp.alloc hs.inv.fresh _).trans (Stp.alloc (fun k hk=>hs.inv.fresh k (by simp at hk;omega)) _)
     have hlen2:H.length+2<=H2.length:=by
      have:=(hCm.grow _ _ _ _ _ _ hcall (by have:=hs.lim;simp;omega) _ hr2).1
      simpa using this
     have hle3:PK.le σ σ3:=PK.le_trans hle1 q4
     have hpend:=h2.pend
     refine QR.steps hall (hst1.trans (q3.trans s3)) hle3 (fun j hj=>?_) (by simp;omega) (ih m (by omega) (by omega) (ms:=ms++[H.length]) (ds:={ target:=.collected w.heap.size,args:=#[] }::ds) b cs hx ?_ (fun h=>by cases h) ?_ ⟨hk,hro,fn0,hfn0,hrs0⟩ (fun i h=>by cases h) ⟨?_,i3,by have:=hs.lim;simp;omega⟩) hsub
     ·apply N4
      intro hc
      have e1:σ1 j=σ j:=N4 fun e=>hc (hch1 j e)
      have:=q5 j (fun e=>hj (e.trans e1))
      simp at this
      omega
     ·have tm:=t.addMark H.length
      cases hp:xx.pend with
      | none=>rw [hp] at hpend;simp only at hpend;rw [hpend];simpa using tm
      | some c=>
        rw [hp] at hpend
        obtain ⟨C,hC1,hC2⟩:=hpend
        rw [hC1]
        exact .code (md:=.m) hC2 tm
     ·rw [List.reverse_append]
      exact ⟨⟨w.heap.size,0,0⟩,ds,hs.lim,q4 _ _ hl1,rfl,hds.mono hle3⟩
     ·exact ⟨hs.fr.size,by simp [hs.fr.defers],fun t=>(hs.fr.val t).mono hle3⟩
theorem Nps {as as':List Value} (h:OJ σ as as') (fn:Func):FrRel [] σ fn.ntmps (NB as) { tmps:=as'.toArray++Array.replicate (fn.ntmps-as'.toArray.size) undef,defers:=[] }:=by
 refine ⟨by simp;omega,rfl,fun t=>?_⟩
 unfold NB
 rw [N1,Na]
 by_cases b:t<as.length
 ·have a:t<as'.length:=by rw [<-h.1];exact b
  rw [Array.getElem?_append_left (by simpa using a),Nf b]
  simp only [List.getElem?_toArray,Nf a,Pa]
  exact h.2 t _ _ (Nf b) (Nf a)
 ·have a:as'.toArray.size<=t:=by simp [<-h.1];omega
  rw [Nw (by omega),Array.getElem?_append_right a,Array.getElem?_replicate]
  have c:VRel σ undef undef:=.atom rfl
  split<;>exact c
theorem ZO {pf:FuncId->Bool} {g:FuncId} {af:AFunc} (ht:NP P pf g=some af):∃fn body md c rs,P.funcs[g]? = some fn/\fn.body=some body/\trX P pf md body=some c/\fn.results.toList.mapM (Ms P)=some rs/\(fn.name == "runtime.NumGoroutine")=false/\
  ((md=.n/\af={ ntmps:=fn.ntmps,results:=rs,body:=c })\/(md=.m/\af={ ntmps:=fn.ntmps,results:=rs,body:=.seq c .retM })):=by
 unfold NP at ht
 split at ht
 ·rename_i a ha
  cases ht
  unfold Nq1 at ha
  obtain ⟨fn,hfn,ht⟩:=NZ ha
  obtain ⟨body,hb,ht⟩:=NZ ht
  obtain ⟨c,hc,ht⟩:=NZ ht
  obtain ⟨rs,hrs,ht⟩:=NZ ht
  split at ht
  ·cases ht
  ·rename_i hn
   cases ht
   exact ⟨fn,body,.n,c,rs,hfn,hb,hc,hrs,by simpa using hn,.inl ⟨rfl,rfl⟩⟩
 ·unfold Nq2 at ht
  obtain ⟨fn,hfn,ht⟩:=NZ ht
  obtain ⟨body,hb,ht⟩:=NZ ht
  obtain ⟨c,hc,ht⟩:=NZ ht
  obtain ⟨rs,hrs,ht⟩:=NZ ht
  split at ht
  ·cases ht
  ·rename_i hn
   cases ht
   exact ⟨fn,body,.m,c,rs,hfn,hb,hc,hrs,by simpa using hn,.inr ⟨rfl,rfl⟩⟩
theorem Ne7 (y:EnvOk P E) (n:Nat) (x:∀m,m<n->CallOkS (Prg.mk P (Env.pure E)) (Rw E m)) {g:FuncId} {af:AFunc} (B:NP P E.pure g=some af) {as as':List Value} {R:List (Value×NE)} (l:OZ E n af lim [.code af.body] (NB as) H=some R) (hl:lim<=H.length)
  (f:Inv (Prg.mk P (Env.pure E)) W lim σ H w) (z:OJ σ as as'):Calls P g as'.toArray w fun e w'=>∃r∈R,Td (Prg.mk P (Env.pure E)) W lim σ H r.1 r.2 w e w':=by
 obtain ⟨fn,body,md,c,C,d,A,hc,j,hn,u⟩:=ZO B
 intro cs
 let b:Frame:={ (default:Frame) with fn:=g,kind:=.normal,roundOf:=none }
 have a:Frame.enter P g as'.toArray .normal=b.atR { tmps:=as'.toArray++Array.replicate (fn.ntmps-as'.toArray.size) undef,defers:=[] } [.code body]:=by
  simp [Frame.enter,Frame.atR,d,A,b]
 have k:State (Prg.mk P (Env.pure E)) [] W lim σ fn.ntmps (NB as) H { tmps:=as'.toArray++Array.replicate (fn.ntmps-as'.toArray.size) undef,defers:=[] } w:=⟨Nps z fn,f,hl⟩
 rcases u with ⟨rfl,rfl⟩ | ⟨rfl,rfl⟩
 ·obtain ⟨r,hr,m,v',w',v,h1,⟨fr,rfl,h2,o⟩,p,h5,q,s,t⟩:=Nao (W:=W) y n x n (Nd _) (ms:=[]) b cs l (.code hc .nilN) (fun _=>rfl) rfl ⟨rfl,rfl,fn,d,j⟩ (fun i h=>by cases h) k
  rw [<-a] at h1
  exact ⟨.returned v',w',fr,⟨r,hr,v',v,rfl,p,h5,q,s,t⟩,h1,h2,o⟩
 ·cases n with
  | zero=>simp [OZ] at l
  | succ n=>
  rw [OZ.eq_def] at l
  simp only at l
  obtain ⟨r,hr,m,v',w',v,h1,⟨fr,rfl,h2,o⟩,p,h5,q,s,t⟩:=Nao (W:=W) y (n+1) x n (by omega) (ms:=[]) b cs l (.code hc .nilM) (fun _=>rfl) rfl ⟨rfl,rfl,fn,d,j⟩ (fun i h=>by cases h) k
  rw [<-a] at h1
  exact ⟨.returned v',w',fr,⟨r,hr,v',v,rfl,p,h5,q,s,t⟩,h1,h2,o⟩
theorem Z4:∀(ps:List Nat) (as as':List Value) (fr:Nat->Value) (a:Array Value) (N:Nat),as.length=ps.length->(ps.all (·<N))=true->N<=a.size->OJ σ as as'->(∀t,VRel σ (fr t) (a.getD t undef))->
  N<=((ps.zip as').foldl (fun (tmps:Array Value) (x:Nat×Value)=>tmps.setIfInBounds x.1 x.2) a).size/\∀t,VRel σ (Te fr ps as t) (((ps.zip as').foldl (fun (tmps:Array Value) (x:Nat×Value)=>tmps.setIfInBounds x.1 x.2) a).getD t undef)
 | [],as,as',fr,a,N,h,_,hN,ha,hv=>by
   cases as with
   | nil=>exact ⟨by simpa using hN,by simpa [Te] using hv⟩
   | cons=>simp at h
 | p::ps,as,as',fr,a,N,h,hp,hN,ha,hv=>by
   cases as with
   | nil=>simp at h
   | cons x xs=>
     cases as' with
     | nil=>have:=ha.1;simp at this
     | cons y ys=>
       simp only [List.all_cons,Ny,Oa] at hp
       simp only [List.zip_cons_cons,Oi,Te]
       refine Z4 ps xs ys _ _ N (by simpa using h) hp.2 (by simpa using hN) ha.tail fun t=>?_
       rw [N1]
       by_cases e:t=p
       ·subst e
        rw [Ni rfl,Array.getElem?_setIfInBounds_self_of_lt (by omega)]
        exact ha.head
       ·rw [Nh e,Pr (fun h=>e h.symm),<-N1]
        exact hv t
theorem Nki (y:EnvOk P E) (n:Nat) (v:∀m,m<n->CallOkS (Prg.mk P (Env.pure E)) (Rw E m)) {i:Nat} {x:LoopB} (z:NF H i=.loop x) (l:lim<=i) {as as':List Value} (f:as.length=x.params.length) (g:(x.params.all (·<x.N))=true) {R:List (Value×NE)}
  (A:OZ E n ⟨x.N,[],.skip⟩ lim [.code x.assign,.begin i,.code x.body,.round i] (Te x.fr x.params as) H=some R) (hl:lim<=H.length)
  (d:Inv (Prg.mk P (Env.pure E)) W lim σ H w) (u:OJ σ as as') {L:Loc} (hL:σ i=some L) :
  ∃r,w.heap[L.blk]? = some (.loop r)/\as'.toArray.size=r.params.size/\RoundIn Fence.wide 0 P L.blk r.fn (Tf r as'.toArray) r.assign r.body w fun e w'=>∃x∈R,Td (Prg.mk P (Env.pure E)) W lim σ H x.1 x.2 w e w':=by
 obtain ⟨r,h1,h2⟩:=d.loop z hL
 have p:as'.toArray.size=r.params.size:=by
  have e:=u.1
  rw [<-Array.length_toList (xs:=r.params),h2.params,List.size_toArray];omega
 refine ⟨r,h1,p,trivial,fun c cs _=>?_⟩
 let b:Frame:={ (default:Frame) with fn:=r.fn,kind:=.normal,roundOf:=some L.blk }
 have k:Frame.round L.blk r.fn (Tf r as'.toArray) r.assign r.body .normal=b.atR { tmps:=Tf r as'.toArray,defers:=[] } [.code r.assign,.beginRound,.code r.body]:=by
  simp [Frame.round,Frame.atR,b]
 have o:Tf r as'.toArray=(x.params.zip as').foldl (fun (tmps:Array Value) (x:Nat×Value)=>tmps.setIfInBounds x.1 x.2) r.tmps:=by
  unfold Tf
  rw [<-h2.params,<-Array.foldl_toList]
  simp
 obtain ⟨s,t⟩:=Z4 (σ:=σ) x.params as as' x.fr r.tmps x.N f g h2.size u h2.val
 rw [<-o] at s t
 obtain ⟨G,q,m,v',w',I,k1,⟨J,cs',e1,rfl⟩,B,C,D,k7,F⟩:=Nao (W:=W) y n v n (Nd _) (md:=.r i) (ms:=[]) (ds:=[]) (af:=⟨x.N,[],.skip⟩) (a:={ tmps:=Tf r as'.toArray,defers:=[] }) b (c::cs) A (.code (md:=.r i) h2.assign (.begin (.code (md:=.r i) h2.body .nilR))) (fun h=>by cases h) rfl
  ⟨rfl,L,c,cs,rfl,hL,rfl⟩ (fun j h=>by cases h;exact l) ⟨⟨s,rfl,t⟩,d,hl⟩
 cases e1
 rw [<-k] at k1
 exact ⟨.returned v',w',⟨G,q,v',I,rfl,B,C,D,k7,F⟩,comesIn_wide.2 k1⟩
theorem MX (hE:EnvOk P E):∀n,CallOkS (Prg.mk P (Env.pure E)) (Rw E n):=by
 intro n
 induction n using Nat.strongRecOn with
 | ind n ih=>
 have hgrow:TK (Rw E n):=ZF fun af lim k fr H L hk hx hl=>Nhn E n af lim _ _ _ _ (fun x hx b l e=>absurd e (hk x hx b l)) hx hl
 have inv:∀{mp lim g as H L},Rw E n mp lim (.inl g) as H=some L->
   (∃v,E.orc g as=some v/\L=[(v,H)]/\as.all atom=true/\flat 4 v=true)\/
   (∃r,E.eff g as H=some r/\L=[(r.1,H++news r.2)]/\mp=false)\/
   (∃af,E.tr g=some af/\((∃v,E.pure g=true/\L=[(v,H)]/\olds H.length 4 v=true/\∃L0,OZ E n af H.length [.code af.body] (NB as) H=some L0/\∀r∈L0,r.1=v)\/(mp=false/\OZ E n af lim [.code af.body] (NB as) H=some L))):=by
  intro mp lim g as H L h
  unfold Rw QQ at h
  simp only at h
  split at h
  ·rename_i u hu
   split at h
   ·rename_i hf
    cases h
    simp only [Ny] at hf
    exact .inl ⟨u,hu,rfl,hf.1,hf.2⟩
   ·cases h
  split at h
  ·rename_i r hr
   split at h
   ·cases h
   ·rename_i hm
    cases h
    exact .inr (.inl ⟨r,hr,rfl,by simpa using hm⟩)
  ·split at h
   ·cases h
   ·rename_i af haf
    right;right
    refine ⟨af,haf, ?_⟩
    split at h
    ·rename_i hp
     split at h
     ·rename_i u H1 l h1
      split at h
      ·rename_i hall
       split at h
       ·rename_i hf
        cases h
        refine .inl ⟨u,hp,rfl,hf,_,h1,fun r hr=>?_⟩
        rcases Np.1 hr with rfl | hr
        ·rfl
        ·exact (Nc8 _ _ (N5.1 hall r hr)).symm
       ·cases h
      ·cases h
     ·cases h
    ·split at h
     ·cases h
     ·rename_i hmp
      exact .inr ⟨by simpa using hmp,h⟩
 have trOk:∀{g af},E.tr g=some af->∃fn,P.funcs[g]? = some fn/\fn.body.isSome=true/\(fn.name == "runtime.NumGoroutine")=false:=by
  intro g af h
  obtain ⟨fn,body,md,c,rs,hfn,hb,hc,hrs,hn,_⟩:=ZO (hE.tr g af h)
  exact ⟨fn,hfn,by rw [hb];rfl,hn⟩
 have invR:∀{mp lim i as H L},Rw E n mp lim (.inr i) as H=some L->mp=false/\∃x,NF H i=.loop x/\lim<=i/\as.length=x.params.length/\(x.params.all (·<x.N))=true/\
   OZ E n ⟨x.N,[],.skip⟩ lim [.code x.assign,.begin i,.code x.body,.round i] (Te x.fr x.params as) H=some L:=by
  intro mp lim i as H L h
  unfold Rw QQ at h
  simp only at h
  split at h
  ·cases h
  rename_i hmp
  split at h
  ·rename_i x hb
   split at h
   ·rename_i hc
    exact ⟨by simpa using hmp,x,hb,hc.1,hc.2.1,hc.2.2,h⟩
   ·cases h
  ·cases h
 refine { pure:=?_,fn:=?_,calls:=?_,rounds:=?_,grow:=hgrow }
 ·intro mp lim g as H L h
  rcases inv h with ⟨v,e,_⟩ | ⟨r,e,_⟩ | ⟨af,e,_⟩
  ·exact hE.orcFn _ _ _ e
  ·exact hE.effFn _ _ _ _ e
  ·exact trOk e
 ·intro mp lim g as H L h hl W σ w as' hinv ha
  rcases inv h with ⟨v,e,rfl,hat,hfl⟩ | ⟨r,e,rfl,_⟩ | ⟨af,e,⟨v,hp,rfl,hfl,L0,hx,hall⟩ | ⟨_,hx⟩⟩
  case inr.inl=>exact (hE.eff _ _ _ _ e lim hl W σ w as' hinv ha).mono fun en w' hp=>⟨_,Nj.2 rfl,hp⟩
  ·have heq:as'=as:=by
    apply Pn ha.1.symm
    intro i h1 h2
    exact (ha.2 i _ _ (Nf h2) (Nf h1)).eq_of_atom (N5.1 hat _ (by simp))
   subst heq
   refine (hE.orc _ _ _ e w).mono fun en w' hp=>?_
   obtain ⟨rfl,hb⟩:=hp
   refine ⟨_,Nj.2 rfl,v,σ,rfl, ?_,hinv.world hb.size (fun k hk=>hb.block k hk),⟨hb.os,hb.tape,hb.output,hb.size,fun k hk=>hb.block k ?_⟩,PK.le_refl _,fun j hj=>absurd rfl hj⟩
   ·exact hE.orcFlat _ _ _ e σ
   ·rcases Oh k w.heap.size with h | h
    ·exact h
    ·exact absurd (hinv.fresh k h) hk
  ·have hinv':Inv (Prg.mk P (Env.pure E)) (fun k=>w.heap.size<=k) H.length σ H w:=⟨hinv.blk,hinv.inj,fun i b L hb ho hli hL=>by
    have:=(List.getElem?_eq_some_iff.1 hb).1
    omega,fun b hb=>hb,hinv.dom⟩
   refine (Ne7 hE n ih (hE.tr _ _ e) hx (Nd _) hinv' ha).mono fun en w' hp=>?_
   obtain ⟨r,hr,v',σ',rfl,h1,h2,h3,h4,h5⟩:=hp
   rw [hall r hr] at h1
   have hsm:∀k,k<w.heap.size->w'.heap[k]? = w.heap[k]?:=fun k hk=>h3.block k (by omega)
   refine ⟨_,Nj.2 rfl,v',σ,rfl,h1.olds (fun i L hi hL=>by rw [<-hL];exact (N4 fun e=>by have:=h5 i (Ne.symm e);omega:σ i=σ' i)) 4 hfl,hinv.world h3.size hsm,⟨h3.os,h3.tape,h3.output,h3.size,fun k hk=>hsm k ?_⟩,PK.le_refl _,fun j hj=>absurd rfl hj⟩
   rcases Oh k w.heap.size with h | h
   ·exact h
   ·exact absurd (hinv.fresh k h) hk
  ·exact Ne7 hE n ih (hE.tr _ _ e) hx hl hinv ha
 ·intro mp lim i as H L h hl W σ w as' L0 hinv ha hL
  obtain ⟨_,x,hb,h1,h2,h3,h4⟩:=invR h
  exact Nki hE n ih hb h1 h2 h3 h4 hl hinv ha hL
 ·intro lim g as H L h r hr
  cases g with
  | inr i=>obtain ⟨e,_⟩:=invR h;cases e
  | inl g=>
  rcases inv h with ⟨v,_,e,_⟩ | ⟨_,_,_,e⟩ | ⟨af,_,⟨v,_,e,_⟩ | ⟨e,_⟩⟩
  ·subst e;rw [Nj] at hr;subst hr;rfl
  ·cases e
  ·subst e;rw [Nj] at hr;subst hr;rfl
  ·cases e
theorem Inv.nil (w:World):Inv (Prg.mk P (Env.pure E)) (fun k=>w.heap.size<=k) 0 (fun _=>none) [] w:=
 ⟨fun i b a=>by simp at a,fun i j bi bj Li Lj a=>by simp at a,fun i b L a=>by simp at a,fun b a=>a,fun _ _=>rfl⟩
end
end Go.AM


namespace Go.AM
universe u
namespace Sym
abbrev t (n:Nat):Operand:=.tmp n
abbrev k (v:Value):Operand:=.const v
abbrev i (d:Nat) (o:AOp):AIns:=⟨some d,none,o,none,[]⟩
abbrev zT (n:Int):Operand:=k (.int .i64 n)
abbrev mT (a b:Nat):AIns:=i a (.mov (t b))
abbrev lT (a b:Nat):AIns:=i a (.load1 (t b))
abbrev fT (a n b:Nat):AIns:=i a (.fieldAddr n (t b))
abbrev xT (a e b c:Nat):AIns:=i a (.idxAddrS e (t b) (t c))
abbrev St (n a b:Nat):AIns:=⟨none,none,.store n (t a) (t b),none,[]⟩
abbrev Bt (d:Nat) (o:BinOp) (a b:Nat):AIns:=i d (.bin o (t a) (t b))
abbrev Bc (d:Nat) (o:BinOp) (a:Nat) (c:Int):AIns:=i d (.bin o (t a) (zT c))
abbrev Ce (a b:Nat):ACode:=.cond (t a) .skip (.exit b)
abbrev Nt (d a:Nat):AIns:=i d (.lenSlice (t a))
abbrev Gt (d n a:Nat):AIns:=i d (.loadN n (t a))
abbrev Et (d n a:Nat):AIns:=i d (.extract n (t a))
abbrev Ct (d f:Nat) (l:List Operand):AIns:=i d (.call .any (.func f) l)
abbrev Yp (d g:Nat) (o:AOp):AIns:=⟨some d,some (g,true),o,none,[]⟩
abbrev Yq (d g:Nat) (o:AOp):AIns:=⟨some d,some (g,false),o,none,[]⟩
abbrev Pl (d g a:Nat):AIns:=Yp d g (.load1 (t a))
abbrev Ql (d g a:Nat):AIns:=Yq d g (.load1 (t a))
abbrev Pm (d g a:Nat):AIns:=Yp d g (.mov (t a))
abbrev Qm (d g a:Nat):AIns:=Yq d g (.mov (t a))
abbrev Pf (d g n a:Nat):AIns:=Yp d g (.fieldAddr n (t a))
abbrev Qf (d g n a:Nat):AIns:=Yq d g (.fieldAddr n (t a))
abbrev Px (d g e a b:Nat):AIns:=Yp d g (.idxAddrS e (t a) (t b))
abbrev Qx (d g e a b:Nat):AIns:=Yq d g (.idxAddrS e (t a) (t b))
abbrev Pb (d g:Nat) (o:BinOp) (a b:Nat):AIns:=Yp d g (.bin o (t a) (t b))
abbrev Qb (d g:Nat) (o:BinOp) (a b:Nat):AIns:=Yq d g (.bin o (t a) (t b))
abbrev Zm (d:Nat) (c:Int):AIns:=i d (.mov (zT c))
abbrev At (d a b:Nat):AIns:=i d (.pick (t a) (t b) (k (.bool false)))
abbrev Ot (d a b:Nat):AIns:=i d (.pick (t a) (k (.bool true)) (t b))
abbrev Ut (d a:Nat):AIns:=i d (.un .not (t a))
abbrev Kt (d:Nat) (o:AOp) (m:List Nat):AIns:=⟨some d,none,o,none,m⟩
abbrev Wt (d:Nat) (o:AOp) (n:Nat):AIns:=⟨some d,none,o,some n,[]⟩
abbrev Oz (l:List AIns) (c:ACode):ACode:=.seq (.ops l) c
abbrev Ds (n:Nat) (l:List AIns) (c:ACode):ACode:=.seq (.drawn n l) c
abbrev Bl (n:Nat) (c:ACode):ACode:=.block n (.loop c)
abbrev Vi (n:Int):Value:=.int .i64 n
abbrev Vp (b:Nat):Value:=.pointer (some ⟨b,0,none⟩)
abbrev Sa (b:Nat):Option Addr:=some ⟨b,0,none⟩
abbrev Vz:Value:=.slice none 0 0
abbrev Vc (c:List Value):Blk:=.cells false c
end Sym
structure Bx {α:Sort u} (a:α):Type where
def Nah (dt:Bool) (L:List (Value×NE)) (R:Value->NE->Prop):Prop:=(dt=true->∃x,L=[x])/\∀r∈L,R r.1 r.2
theorem Nah.mono {dt:Bool} {L:List (Value×NE)} {R R':Value->NE->Prop} (h:Nah dt L R) (hr:∀v H,R v H->R' v H):Nah dt L R':=⟨h.1,fun r a=>hr _ _ (h.2 r a)⟩
theorem UA {dt:Bool} {v:Value} {H:NE} {R:Value->NE->Prop}:Nah dt [(v,H)] R=R v H:=propext ⟨fun h=>h.2 (v,H) (by simp),fun h=>⟨fun _=>⟨_,rfl⟩,fun r hr=>by rw [Nj] at hr;subst hr;exact h⟩⟩
theorem Uy {dt:Bool} {r:Value×NE} {R:Value->NE->Prop}:Nah dt [r] R=R r.1 r.2:=UA
def PV (E:Env) (af:AFunc) (lim:Nat) (k:List AItem) (fr:Nat->Value) (H:NE) (R:Value->NE->Prop) (_:Bx k:=⟨⟩) (_:Bx R:=⟨⟩):Prop:=
 ∃n L,OZ E n af lim k fr H=some L/\Nah E.dt L R
def Wu (E:Env) (mp:Bool) (lim:Nat) (t:FuncId ⊕ Nat) (as:List Value) (H:NE) (R:Value->NE->Prop) (_:Bx R:=⟨⟩):Prop:=
 ∃n L,Rw E n mp lim t as H=some L/\Nah E.dt L R
def NL (E:Env) (mp:Bool) (lim:Nat) (g:FuncId) (as:List Value) (H:NE) (R:Value->NE->Prop) (_:Bx R:=⟨⟩):Prop:=
 ∃n L,Rw E n mp lim (.inl g) as H=some L/\Nah E.dt L R
def WL (E:Env) (mp:Bool) (lim:Nat) (i:Nat) (as:List Value) (H:NE) (R:Value->NE->Prop) (_:Bx R:=⟨⟩):Prop:=
 ∃n L,Rw E n mp lim (.inr i) as H=some L/\Nah E.dt L R
def dT (E:Env):Env:={ E with dt:=true }
class DT (E:Env) (E':outParam Env):Prop where
 eq:dT E=E'
def RI (r:Option (Value×NE)) (f:Value->NE->Prop) (_:Bx f:=⟨⟩):Prop:=match r with | some (v,H')=>f v H' | none=>False
def nxK (dt:Bool) (r:Option (List (Value×NE))) (f:Value->NE->Prop) (_:Bx f:=⟨⟩):Prop:=match r with | some L=>Nah dt L f | none=>False
def Ne3 (v:Value) (p q:Prop) (_:Bx p:=⟨⟩) (_:Bx q:=⟨⟩):Prop:=match v with | .bool true=>p | .bool false=>q | _=>False
def TU (v:Value) (b:Bool) (p q:Prop) (_:Bx p:=⟨⟩) (_:Bx q:=⟨⟩):Prop:=match v with | .bool c=>if c=b then p else q | _=>q
theorem Ncb {E:Env} {run:AFunc->Nat->List AItem->(Nat->Value)->NE->Option (List (Value×NE))}:QQ (dT E) run=QQ E run:=rfl
theorem Nr3 (E:Env):∀n,OZ (dT E) n=OZ E n
 | 0=>by funext af lim k fr H;simp [OZ]
 | n+1=>by
   have ih:=Nr3 E n
   funext af lim k fr H
   rw [OZ.eq_def,OZ.eq_def E]
   simp only [ih,Ncb]
theorem Nag (E:Env) (n:Nat):Rw (dT E) n=Rw E n:=by unfold Rw;rw [Nr3,Ncb]
section
variable {E:Env} {af:AFunc} {lim:Nat} {K:List AItem} {fr:Nat->Value} {H:NE} {R:Value->NE->Prop}
theorem NL.weak {E':Env} [h:DT E E'] {mp:Bool} {g:FuncId} {as:List Value} (hc:NL E' mp lim g as H R):NL E mp lim g as H R:=by
 obtain ⟨n,L,h1,h2⟩:=hc
 obtain rfl:=h.eq
 rw [Nag] at h1
 exact ⟨n,L,h1,fun _=>h2.1 rfl,h2.2⟩
theorem PV.succ {k k1:List AItem} {fr fr1:Nat->Value} {H H1:NE} (h:∀n,OZ E (n+1) af lim k fr H=OZ E n af lim k1 fr1 H1):PV E af lim k fr H R=PV E af lim k1 fr1 H1 R:=by
 apply propext
 constructor
 ·rintro ⟨n,L,a,hr⟩
  cases n with
  | zero=>simp [OZ] at a
  | succ n=>rw [h] at a;exact ⟨n,L,a,hr⟩
 ·rintro ⟨n,L,a,hr⟩
  exact ⟨n+1,L,by rw [h];exact a,hr⟩
theorem SK {k:List AItem} {r:Option (Value×NE)} (h:∀n,OZ E (n+1) af lim k fr H=one r):PV E af lim k fr H R=RI r R:=by
 apply propext
 constructor
 ·rintro ⟨n,L,a,hr⟩
  cases n with
  | zero=>simp [OZ] at a
  | succ n=>
    rw [h] at a
    obtain ⟨x,rfl,rfl⟩:=Ve a
    rw [Uy] at hr
    exact hr
 ·intro hk
  cases a:r with
  | none=>rw [a] at hk;exact hk.elim
  | some p=>rw [a] at hk;exact ⟨1,[p],by rw [h,a];rfl,by rw [Uy];exact hk⟩
theorem Nr5 {k:List AItem} (h:∀n,OZ E (n+1) af lim k fr H=one ((result fr H af.results).map (·,H))):PV E af lim k fr H R=RI ((result fr H af.results).map (·,H)) R:=SK h
theorem N43 {a b}:PV E af lim (.code (.seq a b)::K) fr H R=PV E af lim (.code a::.code b::K) fr H R:=PV.succ fun n=>by rw [OZ.eq_def]
theorem N14:PV E af lim (.code .skip::K) fr H R=PV E af lim K fr H R:=PV.succ fun n=>by rw [OZ.eq_def]
theorem N16 {l}:PV E af lim (.code (.ops l)::K) fr H R=PV E af lim (.ops none l::K) fr H R:=PV.succ fun n=>by rw [OZ.eq_def]
theorem Nwi {m l}:PV E af lim (.code (.drawn m l)::K) fr H R=PV E af lim (.ops (some H.length) l::K) fr (H++List.replicate m .dead) R:=PV.succ fun n=>by rw [OZ.eq_def]
theorem N44:PV E af lim (.code .ret::K) fr H R=RI ((result fr H af.results).map (·,H)) R:=Nr5 fun n=>by rw [OZ.eq_def]
theorem N45:PV E af lim [] fr H R=RI ((result fr H af.results).map (·,H)) R:=Nr5 fun n=>by rw [OZ.eq_def]
theorem Nwl {id b}:PV E af lim (.code (.block id b)::K) fr H R=PV E af lim (.code b::.inBlock id::K) fr H R:=PV.succ fun n=>by rw [OZ.eq_def]
theorem Nna {id}:PV E af lim (.inBlock id::K) fr H R=PV E af lim K fr H R:=PV.succ fun n=>by rw [OZ.eq_def]
theorem Xz {b}:PV E af lim (.code (.loop b)::K) fr H R=PV E af lim (.code b::.inLoop b::K) fr H R:=PV.succ fun n=>by rw [OZ.eq_def]
theorem Uk {b}:PV E af lim (.inLoop b::K) fr H R=PV E af lim (.code b::.inLoop b::K) fr H R:=PV.succ fun n=>by rw [OZ.eq_def]
theorem Nm9 {b}:PV E af lim (.ops b []::K) fr H R=PV E af lim K fr H R:=PV.succ fun n=>by rw [OZ.eq_def]
theorem Nfu {id K'} (h:RA id K=some K'):PV E af lim (.code (.exit id)::K) fr H R=PV E af lim K' fr H R:=PV.succ fun n=>by rw [OZ.eq_def];simp only [h]
theorem N17 {c a b}:PV E af lim (.code (.cond c a b)::K) fr H R=Ne3 (ev fr c) (PV E af lim (.code a::K) fr H R) (PV E af lim (.code b::K) fr H R):=by
 cases hc:ev fr c with
 | bool t=>cases t<;>exact PV.succ fun n=>by rw [OZ.eq_def];simp only [hc]
 | _=>
   apply propext
   constructor
   ·rintro ⟨n,L,d,hr⟩
    cases n with
    | zero=>simp [OZ] at d
    | succ n=>rw [OZ.eq_def] at d;simp only [hc] at d;cases d
   ·intro h;exact h.elim
theorem PV.det {k:List AItem} {n m:Nat} {r r':List (Value×NE)} (h:OZ E n af lim k fr H=some r) (h':OZ E m af lim k fr H=some r'):r=r':=by
 have h1:=VL E (P6 n m) h
 have h2:=VL E (Pk n m) h'
 rw [h1] at h2;exact Option.some.inj h2
def Na5:AOp->Bool
 | .call ..=>true
 | _=>false
def dOk (N:Nat):Option Nat->Bool
 | none=>true
 | some d=>decide (d<N)
def Nsz (d:Option Nat) (fr:Nat->Value) (v:Value):Nat->Value:=match d with | none=>fr | some d=>upd fr d v
def gK (N:Nat) (fr:Nat->Value) (g:Option (Nat×Bool)) (p q:Prop) (_:Bx p:=⟨⟩) (_:Bx q:=⟨⟩):Prop:=match RG N fr g with | none=>False | some true=>p | some false=>q
def oK (E:Env) (lim:Nat) (base:Option Nat) (dest:Option Nat) (mask:List Nat) (o:AOp) (fr:Nat->Value) (H:NE) (Q:Value->NE->Prop) (_:Bx Q:=⟨⟩):Prop:=
 match base with
 | none=>∃n L,stepX (Rw E n) lim ⟨none,none,o,dest,mask⟩ (ev fr) H=some L/\Nah E.dt L Q
 | some b=>∃n v H',Ry (det (Rw E n)) lim (dest.map (b+·)) o (ev fr) (OD b mask H)=some (v,H')/\Q v (NY b mask H H')
theorem M7 {N:Nat} {d:Option Nat} (h:dOk N d=true) (v:Value):Yz N fr d v=some (Nsz d fr v):=by
 cases d with
 | none=>rfl
 | some d=>simp [dOk] at h;simp [Yz,Nsz,h]
theorem N46 {L:List ((Nat->Value)×NE)} {k:List AItem} (h:∀r∈L,PV E af lim k r.1 r.2 R):∃N,∀r∈L,∃s,OZ E N af lim k r.1 r.2=some s/\Nah E.dt s R:=by
 induction L with
 | nil=>exact ⟨0,fun r hr=>by cases hr⟩
 | cons x L ih=>
   obtain ⟨N,c⟩:=ih fun r hr=>h r (by simp [hr])
   obtain ⟨n,s,h1,h2⟩:=h x (by simp)
   refine ⟨max N n,fun r hr=>?_⟩
   rcases Np.1 hr with rfl | hr
   ·exact ⟨s,VL E (Pk N n) h1,h2⟩
   ·obtain ⟨d,a,b⟩:=c r hr
    exact ⟨d,VL E (P6 N n) a,b⟩
theorem Zp {α β:Type} {f:α->Option (List β)} {l:List α} {r:List β} (h:TM f l=some r) (e:∀x∈l,∀s,f x=some s->s≠[]) {y:β} (hr:r=[y]):∃x,l=[x]:=by
 cases l with
 | nil=>simp [TM] at h;rw [<-h] at hr;cases hr
 | cons a l=>
   cases l with
   | nil=>exact ⟨a,rfl⟩
   | cons b l=>
     simp only [TM] at h
     split at h
     ·rename_i s t hs d
      split at d
      ·rename_i g j c i
       cases d
       cases h
       have h1:=e a (by simp) s hs
       have h2:=e b (by simp) g c
       cases s with
       | nil=>exact absurd rfl h1
       | cons _ s=>
         cases g with
         | nil=>exact absurd rfl h2
         | cons _ _=>simp at hr
      ·cases d
     ·cases h
theorem Nwj {x:AIns} {l:List AIns}:PV E af lim (.ops none (x::l)::K) fr H R=∃n L,ZX (Rw E n) af.ntmps lim x fr H=some L/\(E.dt=true->∃y,L=[y])/\∀r∈L,PV E af lim (.ops none l::K) r.1 r.2 R:=by
 apply propext
 constructor
 ·rintro ⟨n,L,a,hr⟩
  cases n with
  | zero=>simp [OZ] at a
  | succ n=>
    rw [OZ.eq_def] at a
    simp only at a
    split at a
    ·rename_i L0 h1
     refine ⟨n,L0,h1,fun hd=>?_,fun r b=>?_⟩
     ·obtain ⟨y,h⟩:=hr.1 hd
      exact Zp a (fun x _ s hs=>Zq E _ _ _ _ _ _ _ hs) h
     ·obtain ⟨s,hs,g⟩:=UR a r b
      refine ⟨n,s,hs,fun hd=>?_,fun q j=>hr.2 q (g q j)⟩
      obtain ⟨y,h⟩:=hr.1 hd
      obtain ⟨z,m⟩:=Zp a (fun x _ s hs=>Zq E _ _ _ _ _ _ _ hs) h
      subst m
      rw [Nj] at b
      subst b
      simp only [TM,hs,Option.some.injEq,Nb] at a
      exact ⟨y,a.trans h⟩
    ·cases a
 ·rintro ⟨n,L0,h1,hd,h2⟩
  obtain ⟨N,i⟩:=N46 h2
  have e:ZX (QQ E (OZ E (max n N))) af.ntmps lim x fr H=some L0:=Na6 (Wl E (P6 n N)) h1
  obtain ⟨L,hL⟩:=XX (f:=fun r:(Nat->Value)×NE=>OZ E (max n N) af lim (.ops none l::K) r.1 r.2) (l:=L0) fun r hr=>by
   obtain ⟨s,hs,_⟩:=i r hr
   exact ⟨s,VL E (Pk n N) hs⟩
  refine ⟨max n N+1,L,by rw [OZ.eq_def];simp only [e,hL],fun d=>?_,fun q j=>?_⟩
  ·obtain ⟨y,rfl⟩:=hd d
   obtain ⟨s,hs,ho⟩:=i y (by simp)
   have c:=VL E (Pk n N) hs
   simp only [TM,c,Option.some.injEq,Nb] at hL
   obtain ⟨z,m⟩:=ho.1 d
   exact ⟨z,by rw [<-hL,m]⟩
  ·obtain ⟨r,hr,s,hs,k⟩:=UT hL q j
   obtain ⟨o,c,ho⟩:=i r hr
   have:=PV.det hs c
   subst this
   exact ho.2 q k
theorem Nwk {b:Nat} {x:AIns} {l:List AIns}:PV E af lim (.ops (some b) (x::l)::K) fr H R=∃n,∃fr' H',TA (det (Rw E n)) af.ntmps lim (some b) x fr H=some (fr',H')/\PV E af lim (.ops (some b) l::K) fr' H' R:=by
 apply propext
 constructor
 ·rintro ⟨n,L,a,hr⟩
  cases n with
  | zero=>simp [OZ] at a
  | succ n=>
    rw [OZ.eq_def] at a
    simp only at a
    split at a
    ·rename_i fr' H1 h1
     exact ⟨n,fr',H1,h1,n,L,a,hr⟩
    ·cases a
 ·rintro ⟨n,fr',H1,h1,m,L,a,hr⟩
  refine ⟨max n m+1,L, ?_,hr⟩
  rw [OZ.eq_def]
  simp only
  have e:TA (det (QQ E (OZ E (max n m)))) af.ntmps lim (some b) x fr H=some (fr',H1):=ZY (Wl E (P6 n m)).det h1
  rw [e]
  exact VL E (Pk n m) a
theorem N59 {base d g o dest mask l} (hd:dOk af.ntmps d=true):PV E af lim (.ops base (⟨d,g,o,dest,mask⟩::l)::K) fr H R =
  gK af.ntmps fr g (oK E lim base dest mask o fr H fun v H'=>PV E af lim (.ops base l::K) (Nsz d fr v) H' R) (PV E af lim (.ops base l::K) (Nsz d fr undef) H R):=by
 cases base with
 | none=>
   rw [Nwj]
   unfold gK ZX
   simp only
   cases hw:RG af.ntmps fr g with
   | none=>simp
   | some t=>
     cases t with
     | false=>
       simp only [M7 hd,Nv,Option.some.injEq]
       apply propext
       constructor
       ·rintro ⟨n,L,rfl,_,h⟩
        exact h _ (Nj.2 rfl)
       ·intro h
        exact ⟨0,_,rfl,fun _=>⟨_,rfl⟩,fun r hr=>by rw [Nj] at hr;subst hr;exact h⟩
     | true=>
       simp only [oK]
       have i:∀n,stepX (Rw E n) lim ⟨d,g,o,dest,mask⟩ (ev fr) H=stepX (Rw E n) lim ⟨none,none,o,dest,mask⟩ (ev fr) H:=fun n=>rfl
       have hm:∀L:List (Value×NE),Y5 (fun r:Value×NE=>(Yz af.ntmps fr d r.1).map (·,r.2)) L=some (L.map fun r=>(Nsz d fr r.1,r.2)):=fun L=>by
        induction L with
        | nil=>rfl
        | cons x L ih=>rw [Y5,ih,M7 hd];rfl
       simp only [i]
       apply propext
       constructor
       ·rintro ⟨n,L,h1,c,h2⟩
        split at h1
        ·rename_i L0 h5
         rw [hm] at h1
         cases h1
         refine ⟨n,L0,h5,fun he=>?_,fun r hr=>h2 _ (List.mem_map.2 ⟨r,hr,rfl⟩)⟩
         obtain ⟨y,j⟩:=c he
         cases L0 with
         | nil=>cases j
         | cons a L0=>
           cases L0 with
           | nil=>exact ⟨a,rfl⟩
           | cons b L0=>simp at j
        ·cases h1
       ·rintro ⟨n,L0,h1,c,h2⟩
        refine ⟨n,L0.map fun r=>(Nsz d fr r.1,r.2),by rw [h1];exact hm L0,fun he=>?_,fun r hr=>?_⟩
        ·obtain ⟨y,rfl⟩:=c he
         exact ⟨_,rfl⟩
        ·obtain ⟨q,s,rfl⟩:=List.mem_map.1 hr
         exact h2 q s
 | some b=>
   rw [Nwk]
   unfold gK TA SF
   simp only
   cases hw:RG af.ntmps fr g with
   | none=>simp
   | some t=>
     cases t with
     | false=>
       simp only [Nc,Prod.mk.injEq,M7 hd]
       apply propext
       constructor
       ·rintro ⟨n,fr',H',⟨f,h1,h2,m⟩,e⟩
        cases h1;subst h2 m;exact e
       ·intro h
        exact ⟨0,_,_,⟨_,rfl,rfl,rfl⟩,h⟩
     | true=>
       simp only [oK]
       apply propext
       constructor
       ·rintro ⟨n,fr',H',h1,e⟩
        split at h1
        ·rename_i v H1 h5
         split at h5
         ·rename_i v' k p
          cases h5
          rw [M7 hd] at h1
          simp only [Nv,Option.some.injEq,Prod.mk.injEq] at h1
          obtain ⟨rfl,rfl⟩:=h1
          exact ⟨n,v,k,p,e⟩
         ·cases h5
        ·cases h1
       ·rintro ⟨n,v,H',h1,e⟩
        refine ⟨n,_,_, ?_,e⟩
        rw [h1]
        simp only [M7 hd,Nv]
theorem N30 {N:Nat} {p q:Prop}:gK N fr none p q=p:=rfl
theorem N3z {N g:Nat} {b:Bool} {p q:Prop} (h:g<N):gK N fr (some (g,b)) p q=TU (fr g) b p q:=by
 unfold gK RG TU
 simp only [h,if_true]
 cases fr g<;>simp
 rename_i c
 cases c<;>cases b<;>simp
variable {base dest:Option Nat} {mask:List Nat} {o:AOp} {Q:Value->NE->Prop}
theorem Nsl {C:TP} {ρ:Operand->Value} (h:Na5 o=false):Ry C lim dest o ρ H=NJ lim dest o ρ H:=by
 cases o<;>first | rfl | (simp [Na5] at h)
theorem Nxe {C:Tc} {ρ:Operand->Value} (h:Na5 o=false):stepX C lim ⟨none,none,o,none,mask⟩ ρ H=(NJ lim none o ρ H).map fun r=>[r]:=by
 unfold stepX
 cases o<;>first | rfl | (simp [Na5] at h)
theorem PG (h:Na5 o=false):oK E lim none none mask o fr H Q=RI (NJ lim none o (ev fr) H) Q:=by
 unfold oK RI
 simp only [Nxe h]
 cases NJ lim none o (ev fr) H with
 | none=>simp
 | some p=>exact propext ⟨by rintro ⟨_,_,h,q⟩;cases h;rw [Uy] at q;exact q,fun q=>⟨0,_,rfl,by rw [Uy];exact q⟩⟩
theorem OV {b:Nat} (h:Na5 o=false):oK E lim (some b) dest mask o fr H Q=RI (NJ lim (dest.map (b+·)) o (ev fr) (OD b mask H)) fun v H'=>Q v (NY b mask H H'):=by
 unfold oK RI
 simp only [Nsl h]
 cases NJ lim (dest.map (b+·)) o (ev fr) (OD b mask H) with
 | none=>simp
 | some p=>exact propext ⟨by rintro ⟨_,_,_,h,q⟩;cases h;exact q,fun q=>⟨0,_,_,rfl,q⟩⟩
theorem Nyn {x:Operand}:oK E lim none (some 1) mask (.mov x) fr H Q=RI (Ux (ev fr x) H) Q:=by
 unfold oK RI stepX Ndg
 simp only
 cases Ux (ev fr x) H with
 | none=>simp
 | some p=>exact propext ⟨by rintro ⟨_,_,h,q⟩;cases h;rw [Uy] at q;exact q,fun q=>⟨0,_,rfl,by rw [Uy];exact q⟩⟩
theorem N3e {x:Operand}:oK E lim none (some 2) mask (.mov x) fr H Q=nxK E.dt (ZG lim (ev fr x) H) Q:=by
 unfold oK nxK stepX Ndg
 simp only
 cases ZG lim (ev fr x) H with
 | none=>simp
 | some L=>exact propext ⟨by rintro ⟨_,_,h,q⟩;cases h;exact q,fun q=>⟨0,_,rfl,q⟩⟩
theorem Nyp {x:Operand}:oK E lim none (some 3) mask (.mov x) fr H Q=RI (YN (ev fr x) H) Q:=by
 unfold oK RI stepX Ndg
 simp only
 cases YN (ev fr x) H with
 | none=>simp
 | some p=>exact propext ⟨by rintro ⟨_,_,h,q⟩;cases h;rw [Uy] at q;exact q,fun q=>⟨0,_,rfl,by rw [Uy];exact q⟩⟩
def Ni9 (c:Option ((FuncId ⊕ Nat)×List Value)) (f:FuncId ⊕ Nat->List Value->Prop) (_:Bx f:=⟨⟩):Prop:=match c with | some (g,as)=>f g as | none=>False
theorem Nbj {mp:Bool} {g:FuncId} {as:List Value}:Wu E mp lim (.inl g) as H Q=NL E mp lim g as H Q:=rfl
theorem Nhr {mp:Bool} {i:Nat} {as:List Value}:Wu E mp lim (.inr i) as H Q=WL E mp lim i as H Q:=rfl
theorem Nve {g:FuncId ⊕ Nat} {as:List Value} {f:FuncId ⊕ Nat->List Value->Prop}:Ni9 (some (g,as)) f=f g as:=rfl
theorem Nkp:CM.any.isPure=false:=id rfl
theorem Ns0:CM.pure.isPure=true:=id rfl
theorem N2w:CM.mk.isPure=false:=id rfl
def CM.free:CM->Bool
 | .maps | .recs=>false
 | _=>true
theorem N0h:CM.free .any=true:=id rfl
theorem Nuo:CM.free .pure=true:=id rfl
theorem N31:CM.free .mk=true:=id rfl
theorem No9 {H:NE} {p:Addr}:loadX none H p=loadCell H p:=id rfl
theorem No8 {H:NE} {p:Addr} {k:Nat}:loadX (some k) H p=(loadCells H p k).map fun c=>.agg c.toArray:=id rfl
theorem Npj {ro:Bool} {p:Option Addr} {l:List Value}:Tz (.cells ro (.pointer p::l))=true:=id rfl
theorem Nix {ro:Bool} {p:Option Addr} {n c:Nat} {l:List Value}:Tz (.cells ro (.slice p n c::l))=true:=id rfl
theorem Npk {ro:Bool} {k:IntKind} {n:Int} {l:List Value}:Tz (.cells ro (.int k n::l))=Tz (.cells ro l):=id rfl
theorem N3k {H:NE}:CM.any.lim lim H=lim:=id rfl
theorem Ny8 {H:NE}:CM.pure.lim lim H=lim:=id rfl
theorem N67 {H:NE}:CM.mk.lim lim H=H.length:=id rfl
theorem Neb {mp:CM} (hm:mp.free=true) {H:NE}:∀L:List (Value×NE),Y5 (fun r=>Vs mp H (some r)) L=some L
 | []=>rfl
 | x::L=>by
   have e:Vs mp H (some x)=some x:=by cases mp<;>first | rfl | cases hm
   simp only [Y5,e,Neb hm L]
theorem N3f {mp:CM} {f:Operand} {args:List Operand} (hm:mp.free=true):oK E lim none none mask (.call mp f args) fr H Q=Ni9 (NC (ev fr f) (args.map (ev fr))) fun g as=>Wu E mp.isPure (mp.lim lim H) g as H Q:=by
 unfold oK Ni9 Wu
 simp only [stepX,Yt]
 cases NC (ev fr f) (args.map (ev fr)) with
 | none=>simp
 | some p=>
   obtain ⟨g,as⟩:=p
   simp only
   apply propext
   constructor
   ·rintro ⟨n,L,h,q⟩
    split at h
    ·rename_i L0 a
     rw [Neb hm] at h
     cases h
     exact ⟨n,L,a,q⟩
    ·cases h
   ·rintro ⟨n,L,h,q⟩
    exact ⟨n,L,by rw [h];exact Neb hm L,q⟩
theorem MV {C:Tc} {mp:Bool} {t:FuncId ⊕ Nat} {as:List Value} {p:Value×NE}:det C mp lim t as H=some p↔C mp lim t as H=some [p]:=by
 unfold det
 constructor
 ·exact fun h=>Sw h
 ·intro h;rw [h];rfl
theorem Nyq {E':Env} [hE:DT E E'] {b:Nat} {mp:CM} {f:Operand} {args:List Operand} (hm:mp.free=true):oK E lim (some b) dest mask (.call mp f args) fr H Q=Ni9 (NC (ev fr f) (args.map (ev fr))) fun g as=>Wu E' mp.isPure (mp.lim lim (OD b mask H)) g as (OD b mask H) fun v H'=>Q v (NY b mask H H'):=by
 obtain rfl:=hE.eq
 unfold oK Ni9 Ry Wu
 simp only
 cases NC (ev fr f) (args.map (ev fr)) with
 | none=>simp
 | some p=>
   obtain ⟨g,as⟩:=p
   have e:∀r,Vs mp (OD b mask H) r=r:=fun r=>by cases mp<;>first | rfl | cases hm
   simp only [e,MV,Nag]
   apply propext
   constructor
   ·rintro ⟨n,v,H',h,q⟩
    exact ⟨n,_,h,by rw [UA];exact q⟩
   ·rintro ⟨n,L,h,q⟩
    obtain ⟨⟨v,H'⟩,rfl⟩:=q.1 rfl
    rw [UA] at q
    exact ⟨n,v,H',h,q⟩
theorem Nyo {E':Env} [hE:DT E E'] {b:Nat} {f:Operand} {args:List Operand}:oK E lim (some b) dest mask (.call .maps f args) fr H Q=Ni9 (NC (ev fr f) (args.map (ev fr))) fun g as=>Wu E' false lim g as (OD b mask H) fun v H'=>VR (OD b mask H) H'=true/\Q v (NY b mask H H'):=by
 obtain rfl:=hE.eq
 unfold oK Ni9 Wu
 simp only [Ry]
 cases NC (ev fr f) (args.map (ev fr)) with
 | none=>simp
 | some p=>
   obtain ⟨g,as⟩:=p
   simp only [Nag]
   apply propext
   constructor
   ·rintro ⟨n,v,H',h,q⟩
    obtain ⟨h1,h2⟩:=SG h
    exact ⟨n,_,MV.1 h1,by rw [UA];exact ⟨h2 rfl,q⟩⟩
   ·rintro ⟨n,L,h1,q⟩
    obtain ⟨⟨v,H'⟩,rfl⟩:=q.1 rfl
    rw [UA] at q
    obtain ⟨h2,q⟩:=q
    refine ⟨n,v,H', ?_,q⟩
    show Vs .maps (OD b mask H) (det (Rw E n) false lim g as (OD b mask H))=some (v,H')
    rw [MV.2 h1]
    simp only [Vs,Ni h2]
theorem Nym {E':Env} [hE:DT E E'] {b:Nat} {f:Operand} {args:List Operand}:oK E lim (some b) dest mask (.call .recs f args) fr H Q=Ni9 (NC (ev fr f) (args.map (ev fr))) fun g as=>Wu E' false lim g as (OD b mask H) fun v H'=>Xg (OD b mask H) H'=true/\Q v (NY b mask H H'):=by
 obtain rfl:=hE.eq
 unfold oK Ni9 Wu
 simp only [Ry]
 cases NC (ev fr f) (args.map (ev fr)) with
 | none=>simp
 | some p=>
   obtain ⟨g,as⟩:=p
   simp only [Nag]
   apply propext
   constructor
   ·rintro ⟨n,v,H',h,q⟩
    have h2:=Nbb h
    exact ⟨n,_,MV.1 (SG h).1,by rw [UA];exact ⟨h2,q⟩⟩
   ·rintro ⟨n,L,h1,q⟩
    obtain ⟨⟨v,H'⟩,rfl⟩:=q.1 rfl
    rw [UA] at q
    obtain ⟨h2,q⟩:=q
    refine ⟨n,v,H', ?_,q⟩
    show Vs .recs (OD b mask H) (det (Rw E n) false lim g as (OD b mask H))=some (v,H')
    rw [MV.2 h1]
    simp only [Vs,Ni h2]
theorem Wu.all {mp:Bool} {t:FuncId ⊕ Nat} {as:List Value} {n:Nat} {L:List (Value×NE)} (h:Rw E n mp lim t as H=some L):Wu E mp lim t as H Q=Nah E.dt L Q:=by
 apply propext
 constructor
 ·rintro ⟨m,b,h1,h2⟩
  have e1:=Wl E (P6 n m) _ _ _ _ _ _ h
  have e2:=Wl E (Pk n m) _ _ _ _ _ _ h1
  rw [e1] at e2;cases e2;exact h2
 ·exact fun a=>⟨n,L,h,a⟩
theorem NL.det {mp:Bool} {g:FuncId} {as:List Value} {n:Nat} {v:Value} {H':NE} (h:Rw E n mp lim (.inl g) as H=some [(v,H')]):NL E mp lim g as H Q=Q v H':=by
 rw [<-Nbj,Wu.all h,UA]
theorem Nwr {mp:Bool} {g:FuncId} {as:List Value} {v:Value} (ho:E.orc g as=none/\E.eff g as H=none) (c:E.tr g=some af) (hp:E.pure g=true) (b:olds H.length 4 v=true) (h:PV E af H.length [.code af.body] (NB as) H fun v' _=>v'=v):NL E mp lim g as H Q=Q v H:=by
 obtain ⟨n,L,h1,hd,h2⟩:=h
 have hL:=Zq E _ _ _ _ _ _ _ h1
 cases L with
 | nil=>exact absurd rfl hL
 | cons x L=>
   obtain ⟨v',H'⟩:=x
   have e1:v'=v:=h2 _ (No)
   subst e1
   have a:(L.all fun r=>R7 v' r.1)=true:=N5.2 fun r hr=>by
    have:r.1=v':=h2 r (Nk _ hr)
    rw [this];exact ZN v'
   exact NL.det (n:=n) (by unfold Rw QQ;simp only [ho.1,ho.2,c,hp,if_true,h1,a,b])
theorem Mm {mp:Bool} {g:FuncId} {as:List Value} {v:Value} (ho:E.orc g as=none/\E.eff g as H=none) (b:E.tr g=some af) (hp:E.pure g=true) (a:flat 4 v=true) (h:PV E af H.length [.code af.body] (NB as) H fun v' _=>v'=v):NL E mp lim g as H Q=Q v H:=
 Nwr ho b hp (XH 4 a) h
theorem Nwq {mp:Bool} {g:FuncId} {as:List Value} {v:Value} (ho:E.orc g as=some v) (a:as.all atom=true) (b:flat 4 v=true):NL E mp lim g as H Q=Q v H:=
 NL.det (n:=0) (by unfold Rw QQ;simp only [ho,a,b,Bool.and_self,if_true])
theorem Sn {mp:Bool} {g:FuncId} {as:List Value} (ho:E.orc g as=none/\E.eff g as H=none) (a:E.tr g=some af) (hp:E.pure g=false) (hm:mp=false):NL E mp lim g as H Q=PV E af lim [.code af.body] (NB as) H Q:=by
 unfold NL PV Rw QQ
 simp only [ho.1,ho.2,a,hp,hm,Nx,if_false]
theorem Nws {g:FuncId} {as:List Value} {r:Value×List (List Value)} (ho:E.orc g as=none) (he:E.eff g as H=some r):NL E false lim g as H Q=Q r.1 (H++news r.2):=
 NL.det (n:=0) (by unfold Rw QQ;simp only [ho,he,Nx,if_false])
end
section
variable {E:Env} {af:AFunc} {lim:Nat} {K:List AItem} {fr fr':Nat->Value} {H H':NE} {R:Value->NE->Prop}
theorem Nx0 {v:Value} {f:Value->NE->Prop}:RI (some (v,H)) f=f v H:=rfl
theorem upd_same {d:Nat} {v:Value}:upd fr d v d=v:=by simp [upd]
theorem upd_ne {d t:Nat} {v:Value} (h:t≠d):upd fr d v t=fr t:=by simp [upd,h]
theorem N7b {t:Nat}:ev fr (.tmp t)=fr t:=rfl
theorem N0m {v:Value}:ev fr (.const v)=v:=rfl
theorem N32 {f:FuncId}:ev fr (.func f)=.func (.func f) #[] #[]:=rfl
theorem NN {X:NE} {j:Nat} (h:j<H.length):NF (H++X) j=NF H j:=by
 unfold NF;rw [Na,Na,N6 h]
theorem NW {X:NE} {j:Nat}:NF (H++X) (H.length+j)=X.getD j .dead:=by
 unfold NF;rw [Na,Na,Ob (by omega)];simp
theorem NV {X:NE}:NF (H++X) H.length=X.getD 0 .dead:=NW (j:=0)
theorem Nhz {X:NE} {j:Nat} {b:Blk}:(H++X).set (H.length+j) b=H++X.set j b:=by
 rw [Qd _ _ (by omega)];simp
theorem Nkd {X:NE} {b:Blk}:(H++X).set H.length b=H++X.set 0 b:=Nhz (j:=0)
theorem Ny3 {b:Nat}:OD b [] H=H:=rfl
theorem Nni {b:Nat} {H0:NE}:NY b [] H0 H=H:=rfl
end
section
variable {E:Env} {lim b:Nat} {dest:Option Nat} {mask:List Nat} {fr:Nat->Value} {H:NE} {Q:Value->NE->Prop}
theorem N6q {a:Operand}:oK E lim none none mask (.mov a) fr H Q=RI (NJ lim none (.mov a) (ev fr) H) Q:=PG rfl
theorem N6u {a:Operand}:oK E lim (some b) dest mask (.mov a) fr H Q=RI (NJ lim (dest.map (b+·)) (.mov a) (ev fr) (OD b mask H)) fun v H'=>Q v (NY b mask H H'):=OV rfl
theorem N22 {c a b:Operand}:oK E lim none none mask (.pick c a b) fr H Q=RI (NJ lim none (.pick c a b) (ev fr) H) Q:=PG rfl
theorem N29 {d a c:Operand}:oK E lim (some b) dest mask (.pick d a c) fr H Q=RI (NJ lim (dest.map (b+·)) (.pick d a c) (ev fr) (OD b mask H)) fun v H'=>Q v (NY b mask H H'):=OV rfl
theorem N6t {a:BinOp} {b c:Operand}:oK E lim none none mask (.bin a b c) fr H Q=RI (NJ lim none (.bin a b c) (ev fr) H) Q:=PG rfl
theorem N6x {a:BinOp} {c d:Operand}:oK E lim (some b) dest mask (.bin a c d) fr H Q=RI (NJ lim (dest.map (b+·)) (.bin a c d) (ev fr) (OD b mask H)) fun v H'=>Q v (NY b mask H H'):=OV rfl
theorem N6r {a:Bool} {b:EqKind} {c d:Operand}:oK E lim none none mask (.eqv a b c d) fr H Q=RI (NJ lim none (.eqv a b c d) (ev fr) H) Q:=PG rfl
theorem N6v {a:Bool} {c:EqKind} {d e:Operand}:oK E lim (some b) dest mask (.eqv a c d e) fr H Q=RI (NJ lim (dest.map (b+·)) (.eqv a c d e) (ev fr) (OD b mask H)) fun v H'=>Q v (NY b mask H H'):=OV rfl
theorem N9j {a:UnOp} {b:Operand}:oK E lim none none mask (.un a b) fr H Q=RI (NJ lim none (.un a b) (ev fr) H) Q:=PG rfl
theorem N9m {a:UnOp} {c:Operand}:oK E lim (some b) dest mask (.un a c) fr H Q=RI (NJ lim (dest.map (b+·)) (.un a c) (ev fr) (OD b mask H)) fun v H'=>Q v (NY b mask H H'):=OV rfl
theorem N25 {a:IntKind} {b:Operand}:oK E lim none none mask (.conv a b) fr H Q=RI (NJ lim none (.conv a b) (ev fr) H) Q:=PG rfl
theorem N3c {a:IntKind} {c:Operand}:oK E lim (some b) dest mask (.conv a c) fr H Q=RI (NJ lim (dest.map (b+·)) (.conv a c) (ev fr) (OD b mask H)) fun v H'=>Q v (NY b mask H H'):=OV rfl
theorem Nx8 {a:List Value}:oK E lim none none mask (.alloc a) fr H Q=RI (NJ lim none (.alloc a) (ev fr) H) Q:=PG rfl
theorem Nyl {a:List Value}:oK E lim (some b) dest mask (.alloc a) fr H Q=RI (NJ lim (dest.map (b+·)) (.alloc a) (ev fr) (OD b mask H)) fun v H'=>Q v (NY b mask H H'):=OV rfl
theorem N6s {a:Operand}:oK E lim none none mask (.box a) fr H Q=RI (NJ lim none (.box a) (ev fr) H) Q:=PG rfl
theorem N6w {a:Operand}:oK E lim (some b) dest mask (.box a) fr H Q=RI (NJ lim (dest.map (b+·)) (.box a) (ev fr) (OD b mask H)) fun v H'=>Q v (NY b mask H H'):=OV rfl
theorem Nx7 {b:List Value} {a:List (Nat×Nat×Operand)}:oK E lim none none mask (.build b a) fr H Q=RI (NJ lim none (.build b a) (ev fr) H) Q:=PG rfl
theorem Nyk {c:List Value} {a:List (Nat×Nat×Operand)}:oK E lim (some b) dest mask (.build c a) fr H Q=RI (NJ lim (dest.map (b+·)) (.build c a) (ev fr) (OD b mask H)) fun v H'=>Q v (NY b mask H H'):=OV rfl
theorem Nf2 {c:Nat} {b:List Value} {a:List (Nat×Nat×Operand)}:oK E lim none none mask (.buildSlice c b a) fr H Q=RI (NJ lim none (.buildSlice c b a) (ev fr) H) Q:=PG rfl
theorem Nf3 {d:Nat} {c:List Value} {a:List (Nat×Nat×Operand)}:oK E lim (some b) dest mask (.buildSlice d c a) fr H Q=RI (NJ lim (dest.map (b+·)) (.buildSlice d c a) (ev fr) (OD b mask H)) fun v H'=>Q v (NY b mask H H'):=OV rfl
theorem Nx4 {a:Operand}:oK E lim none none mask (.load1 a) fr H Q=RI (NJ lim none (.load1 a) (ev fr) H) Q:=PG rfl
theorem Nyh {a:Operand}:oK E lim (some b) dest mask (.load1 a) fr H Q=RI (NJ lim (dest.map (b+·)) (.load1 a) (ev fr) (OD b mask H)) fun v H'=>Q v (NY b mask H H'):=OV rfl
theorem Nx3 {b:Nat} {a:Operand}:oK E lim none none mask (.loadN b a) fr H Q=RI (NJ lim none (.loadN b a) (ev fr) H) Q:=PG rfl
theorem Nye {c:Option Nat} {a:Operand}:oK E lim (some b) dest mask (.loadR c a) fr H Q=RI (NJ lim (dest.map (b+·)) (.loadR c a) (ev fr) (OD b mask H)) fun v H'=>Q v (NY b mask H H'):=OV rfl
theorem Nyg {c:Nat} {a:Operand}:oK E lim (some b) dest mask (.loadN c a) fr H Q=RI (NJ lim (dest.map (b+·)) (.loadN c a) (ev fr) (OD b mask H)) fun v H'=>Q v (NY b mask H H'):=OV rfl
theorem Nyf {d:Option Nat} {a c:Operand}:oK E lim (some b) dest mask (.loadO d a c) fr H Q=RI (NJ lim (dest.map (b+·)) (.loadO d a c) (ev fr) (OD b mask H)) fun v H'=>Q v (NY b mask H H'):=OV rfl
theorem Ntl {d:Nat} {a e c:Operand}:oK E lim (some b) dest mask (.storeO d a e c) fr H Q=RI (NJ lim (dest.map (b+·)) (.storeO d a e c) (ev fr) (OD b mask H)) fun v H'=>Q v (NY b mask H H'):=OV rfl
theorem Ntm {b c:Nat} {a d:Operand}:oK E lim (some b) dest mask (.storeD c a d) fr H Q=RI (NJ lim (dest.map (b+·)) (.storeD c a d) (ev fr) (OD b mask H)) fun v H'=>Q v (NY b mask H H'):=OV rfl
theorem Nx2 {b:Nat} {a c:Operand}:oK E lim none none mask (.store b a c) fr H Q=RI (NJ lim none (.store b a c) (ev fr) H) Q:=PG rfl
theorem Nyd {c:Nat} {a d:Operand}:oK E lim (some b) dest mask (.store c a d) fr H Q=RI (NJ lim (dest.map (b+·)) (.store c a d) (ev fr) (OD b mask H)) fun v H'=>Q v (NY b mask H H'):=OV rfl
theorem Nkw {a:Operand}:oK E lim none none mask (.nilCheck a) fr H Q=RI (NJ lim none (.nilCheck a) (ev fr) H) Q:=PG rfl
theorem Nk6 {a:Operand}:oK E lim (some b) dest mask (.nilCheck a) fr H Q=RI (NJ lim (dest.map (b+·)) (.nilCheck a) (ev fr) (OD b mask H)) fun v H'=>Q v (NY b mask H H'):=OV rfl
theorem Nic {a:Nat} {b:Operand}:oK E lim none none mask (.fieldAddr a b) fr H Q=RI (NJ lim none (.fieldAddr a b) (ev fr) H) Q:=PG rfl
theorem Nih {a:Nat} {c:Operand}:oK E lim (some b) dest mask (.fieldAddr a c) fr H Q=RI (NJ lim (dest.map (b+·)) (.fieldAddr a c) (ev fr) (OD b mask H)) fun v H'=>Q v (NY b mask H H'):=OV rfl
theorem Ntf {a:Nat} {b:Operand}:oK E lim none none mask (.field1 a b) fr H Q=RI (NJ lim none (.field1 a b) (ev fr) H) Q:=PG rfl
theorem Ntu {a:Nat} {c:Operand}:oK E lim (some b) dest mask (.field1 a c) fr H Q=RI (NJ lim (dest.map (b+·)) (.field1 a c) (ev fr) (OD b mask H)) fun v H'=>Q v (NY b mask H H'):=OV rfl
theorem Nte {a b:Nat} {c:Operand}:oK E lim none none mask (.fieldN a b c) fr H Q=RI (NJ lim none (.fieldN a b c) (ev fr) H) Q:=PG rfl
theorem Ntt {a c:Nat} {d:Operand}:oK E lim (some b) dest mask (.fieldN a c d) fr H Q=RI (NJ lim (dest.map (b+·)) (.fieldN a c d) (ev fr) (OD b mask H)) fun v H'=>Q v (NY b mask H H'):=OV rfl
theorem Nk0 {b a:Nat} {d c:Operand}:oK E lim none none mask (.idxAddrA b a d c) fr H Q=RI (NJ lim none (.idxAddrA b a d c) (ev fr) H) Q:=PG rfl
theorem Nla {c a:Nat} {e d:Operand}:oK E lim (some b) dest mask (.idxAddrA c a e d) fr H Q=RI (NJ lim (dest.map (b+·)) (.idxAddrA c a e d) (ev fr) (OD b mask H)) fun v H'=>Q v (NY b mask H H'):=OV rfl
theorem N24 {c b:Nat} {a:Bool} {e d:Operand}:oK E lim none none mask (.idxA c b a e d) fr H Q=RI (NJ lim none (.idxA c b a e d) (ev fr) H) Q:=PG rfl
theorem N3b {d c:Nat} {a:Bool} {f e:Operand}:oK E lim (some b) dest mask (.idxA d c a f e) fr H Q=RI (NJ lim (dest.map (b+·)) (.idxA d c a f e) (ev fr) (OD b mask H)) fun v H'=>Q v (NY b mask H H'):=OV rfl
theorem Ntd {b a:Operand}:oK E lim none none mask (.idxStr b a) fr H Q=RI (NJ lim none (.idxStr b a) (ev fr) H) Q:=PG rfl
theorem Nts {c a:Operand}:oK E lim (some b) dest mask (.idxStr c a) fr H Q=RI (NJ lim (dest.map (b+·)) (.idxStr c a) (ev fr) (OD b mask H)) fun v H'=>Q v (NY b mask H H'):=OV rfl
theorem Ns8 {a:Nat} {e:Operand} {c b d:Option Operand}:oK E lim none none mask (.sliceS a e c b d) fr H Q=RI (NJ lim none (.sliceS a e c b d) (ev fr) H) Q:=PG rfl
theorem Ntn {a:Nat} {f:Operand} {d c e:Option Operand}:oK E lim (some b) dest mask (.sliceS a f d c e) fr H Q=RI (NJ lim (dest.map (b+·)) (.sliceS a f d c e) (ev fr) (OD b mask H)) fun v H'=>Q v (NY b mask H H'):=OV rfl
theorem Nkv {c:Operand} {b a:Option Operand}:oK E lim none none mask (.sliceStr c b a) fr H Q=RI (NJ lim none (.sliceStr c b a) (ev fr) H) Q:=PG rfl
theorem Nk5 {d:Operand} {c a:Option Operand}:oK E lim (some b) dest mask (.sliceStr d c a) fr H Q=RI (NJ lim (dest.map (b+·)) (.sliceStr d c a) (ev fr) (OD b mask H)) fun v H'=>Q v (NY b mask H H'):=OV rfl
theorem Ntb {a:Operand}:oK E lim none none mask (.lenStr a) fr H Q=RI (NJ lim none (.lenStr a) (ev fr) H) Q:=PG rfl
theorem Ntq {a:Operand}:oK E lim (some b) dest mask (.lenStr a) fr H Q=RI (NJ lim (dest.map (b+·)) (.lenStr a) (ev fr) (OD b mask H)) fun v H'=>Q v (NY b mask H H'):=OV rfl
theorem Nk1 {a:Operand}:oK E lim none none mask (.capSlice a) fr H Q=RI (NJ lim none (.capSlice a) (ev fr) H) Q:=PG rfl
theorem Nlb {a:Operand}:oK E lim (some b) dest mask (.capSlice a) fr H Q=RI (NJ lim (dest.map (b+·)) (.capSlice a) (ev fr) (OD b mask H)) fun v H'=>Q v (NY b mask H H'):=OV rfl
theorem Nky {a:Operand}:oK E lim none none mask (.lenSlice a) fr H Q=RI (NJ lim none (.lenSlice a) (ev fr) H) Q:=PG rfl
theorem Nk8 {a:Operand}:oK E lim (some b) dest mask (.lenSlice a) fr H Q=RI (NJ lim (dest.map (b+·)) (.lenSlice a) (ev fr) (OD b mask H)) fun v H'=>Q v (NY b mask H H'):=OV rfl
theorem Ntc {a:Operand}:oK E lim none none mask (.lenMap a) fr H Q=RI (NJ lim none (.lenMap a) (ev fr) H) Q:=PG rfl
theorem Ntr {a:Operand}:oK E lim (some b) dest mask (.lenMap a) fr H Q=RI (NJ lim (dest.map (b+·)) (.lenMap a) (ev fr) (OD b mask H)) fun v H'=>Q v (NY b mask H H'):=OV rfl
theorem N23 {a:Nat}:oK E lim none none mask (.lenK a) fr H Q=RI (NJ lim none (.lenK a) (ev fr) H) Q:=PG rfl
theorem N3a {a:Nat}:oK E lim (some b) dest mask (.lenK a) fr H Q=RI (NJ lim (dest.map (b+·)) (.lenK a) (ev fr) (OD b mask H)) fun v H'=>Q v (NY b mask H H'):=OV rfl
theorem Nth {b a:Nat} {c:Bool} {d e:Operand}:oK E lim none none mask (.append b a c d e) fr H Q=RI (NJ lim none (.append b a c d e) (ev fr) H) Q:=PG rfl
theorem Ntw {c a:Nat} {d:Bool} {e f:Operand}:oK E lim (some b) dest mask (.append c a d e f) fr H Q=RI (NJ lim (dest.map (b+·)) (.append c a d e f) (ev fr) (OD b mask H)) fun v H'=>Q v (NY b mask H H'):=OV rfl
theorem Noo {b a:Nat} {c:Bool} {d e:Operand}:oK E lim none none mask (.append0 b a c d e) fr H Q=RI (NJ lim none (.append0 b a c d e) (ev fr) H) Q:=PG rfl
theorem Noy {c a:Nat} {d:Bool} {e f:Operand}:oK E lim (some b) dest mask (.append0 c a d e f) fr H Q=RI (NJ lim (dest.map (b+·)) (.append0 c a d e f) (ev fr) (OD b mask H)) fun v H'=>Q v (NY b mask H H'):=OV rfl
theorem Ns9 {a:Bool} {b:List Operand}:oK E lim none none mask (.minmax a b) fr H Q=RI (NJ lim none (.minmax a b) (ev fr) H) Q:=PG rfl
theorem Nto {a:Bool} {c:List Operand}:oK E lim (some b) dest mask (.minmax a c) fr H Q=RI (NJ lim (dest.map (b+·)) (.minmax a c) (ev fr) (OD b mask H)) fun v H'=>Q v (NY b mask H H'):=OV rfl
theorem Nib {d a:Nat} {b:List Value} {e c:Operand}:oK E lim none none mask (.makeSlice d a b e c) fr H Q=RI (NJ lim none (.makeSlice d a b e c) (ev fr) H) Q:=PG rfl
theorem Nig {e a:Nat} {c:List Value} {f d:Operand}:oK E lim (some b) dest mask (.makeSlice e a c f d) fr H Q=RI (NJ lim (dest.map (b+·)) (.makeSlice e a c f d) (ev fr) (OD b mask H)) fun v H'=>Q v (NY b mask H H'):=OV rfl
theorem Nom {d a:Nat} {b:List Value} {e c:Operand}:oK E lim none none mask (.growNil d a b e c) fr H Q=RI (NJ lim none (.growNil d a b e c) (ev fr) H) Q:=PG rfl
theorem Nou {e a:Nat} {c:List Value} {f d:Operand}:oK E lim (some b) dest mask (.growNil e a c f d) fr H Q=RI (NJ lim (dest.map (b+·)) (.growNil e a c f d) (ev fr) (OD b mask H)) fun v H'=>Q v (NY b mask H H'):=OV rfl
theorem Nol {a:Option Operand}:oK E lim none none mask (.makeMap a) fr H Q=RI (NJ lim none (.makeMap a) (ev fr) H) Q:=PG rfl
theorem Nos {a:Option Operand}:oK E lim (some b) dest mask (.makeMap a) fr H Q=RI (NJ lim (dest.map (b+·)) (.makeMap a) (ev fr) (OD b mask H)) fun v H'=>Q v (NY b mask H H'):=OV rfl
theorem Nta {c:KK} {a:Value} {d:Bool} {e b:Operand}:oK E lim none none mask (.lookup c a d e b) fr H Q=RI (NJ lim none (.lookup c a d e b) (ev fr) H) Q:=PG rfl
theorem Ntp {d:KK} {a:Value} {e:Bool} {f c:Operand}:oK E lim (some b) dest mask (.lookup d a e f c) fr H Q=RI (NJ lim (dest.map (b+·)) (.lookup d a e f c) (ev fr) (OD b mask H)) fun v H'=>Q v (NY b mask H H'):=OV rfl
theorem Nia {b:KK} {c a d:Operand}:oK E lim none none mask (.mapUpdate b c a d) fr H Q=RI (NJ lim none (.mapUpdate b c a d) (ev fr) H) Q:=PG rfl
theorem Nif {c:KK} {d a e:Operand}:oK E lim (some b) dest mask (.mapUpdate c d a e) fr H Q=RI (NJ lim (dest.map (b+·)) (.mapUpdate c d a e) (ev fr) (OD b mask H)) fun v H'=>Q v (NY b mask H H'):=OV rfl
theorem Nx6 {b:List Value} {a:Operand}:oK E lim none none mask (.clear b a) fr H Q=RI (NJ lim none (.clear b a) (ev fr) H) Q:=PG rfl
theorem Nyj {c:List Value} {a:Operand}:oK E lim (some b) dest mask (.clear c a) fr H Q=RI (NJ lim (dest.map (b+·)) (.clear c a) (ev fr) (OD b mask H)) fun v H'=>Q v (NY b mask H H'):=OV rfl
theorem Ntg {b:KK} {c a:Operand}:oK E lim none none mask (.delete b c a) fr H Q=RI (NJ lim none (.delete b c a) (ev fr) H) Q:=PG rfl
theorem Ntv {c:KK} {d a:Operand}:oK E lim (some b) dest mask (.delete c d a) fr H Q=RI (NJ lim (dest.map (b+·)) (.delete c d a) (ev fr) (OD b mask H)) fun v H'=>Q v (NY b mask H H'):=OV rfl
theorem Nkx {c:FuncId} {b a:List Operand}:oK E lim none none mask (.makeFunc c b a) fr H Q=RI (NJ lim none (.makeFunc c b a) (ev fr) H) Q:=PG rfl
theorem Nk7 {d:FuncId} {c a:List Operand}:oK E lim (some b) dest mask (.makeFunc d c a) fr H Q=RI (NJ lim (dest.map (b+·)) (.makeFunc d c a) (ev fr) (OD b mask H)) fun v H'=>Q v (NY b mask H H'):=OV rfl
theorem Non {a:Nat} {b:Operand}:oK E lim none none mask (.extract a b) fr H Q=RI (NJ lim none (.extract a b) (ev fr) H) Q:=PG rfl
theorem Nox {a:Nat} {c:Operand}:oK E lim (some b) dest mask (.extract a c) fr H Q=RI (NJ lim (dest.map (b+·)) (.extract a c) (ev fr) (OD b mask H)) fun v H'=>Q v (NY b mask H H'):=OV rfl
theorem Nok {a:Operand}:oK E lim none none mask (.rowMark a) fr H Q=RI (NJ lim none (.rowMark a) (ev fr) H) Q:=PG rfl
theorem Nor {a:Operand}:oK E lim (some b) dest mask (.rowMark a) fr H Q=RI (NJ lim (dest.map (b+·)) (.rowMark a) (ev fr) (OD b mask H)) fun v H'=>Q v (NY b mask H H'):=OV rfl
theorem Nx1 {a:Operand}:oK E lim none none mask (.strId a) fr H Q=RI (NJ lim none (.strId a) (ev fr) H) Q:=PG rfl
theorem Nyc {a:Operand}:oK E lim (some b) dest mask (.strId a) fr H Q=RI (NJ lim (dest.map (b+·)) (.strId a) (ev fr) (OD b mask H)) fun v H'=>Q v (NY b mask H H'):=OV rfl
end
section
variable {E:Env} {af:AFunc} {lim:Nat} {K:List AItem} {fr:Nat->Value} {H:NE} {R:Value->NE->Prop}
theorem N8o {base g o dest mask l} {d:Nat} (hd:d<af.ntmps):PV E af lim (.ops base (⟨some d,g,o,dest,mask⟩::l)::K) fr H R =
  gK af.ntmps fr g (oK E lim base dest mask o fr H fun v H'=>PV E af lim (.ops base l::K) (upd fr d v) H' R) (PV E af lim (.ops base l::K) (upd fr d undef) H R):=N59 (d:=some d) (by simp [dOk,hd])
theorem N8p {base g o dest mask l}:PV E af lim (.ops base (⟨none,g,o,dest,mask⟩::l)::K) fr H R =
  gK af.ntmps fr g (oK E lim base dest mask o fr H fun v H'=>PV E af lim (.ops base l::K) fr H' R) (PV E af lim (.ops base l::K) fr H R):=N59 (d:=none) rfl
end
section
variable {E:Env} {af:AFunc} {lim:Nat} {K:List AItem} {fr:Nat->Value} {H:NE} {R:Value->NE->Prop}
end
section
variable {p q:Prop} {c:Prop} [Decidable c]
theorem Nwy:TU (.bool true) true p q=p:=by simp [TU]
theorem Nw1:TU (.bool false) false p q=p:=by simp [TU]
theorem Nwz:TU (.bool true) false p q=q:=by simp [TU]
theorem Nw0:TU (.bool false) true p q=q:=by simp [TU]
theorem N07:Ne3 (.bool true) p q=p:=rfl
theorem N08:Ne3 (.bool false) p q=q:=rfl
theorem Xa {b:Bool} (h1:c->TU (.bool true) b p q) (h2:¬c->TU (.bool false) b p q):TU (.bool (decide c)) b p q:=by
 by_cases h:c
 ·rw [Nq h];exact h1 h
 ·rw [N8 h];exact h2 h
theorem Xu (h1:c->p) (h2:¬c->q):Ne3 (.bool (decide c)) p q:=by
 by_cases h:c
 ·rw [Nq h];exact h1 h
 ·rw [N8 h];exact h2 h
theorem Xb {t b:Bool} (h1:t=true->TU (.bool true) b p q) (h2:t=false->TU (.bool false) b p q):TU (.bool t) b p q:=by
 cases t
 ·exact h2 rfl
 ·exact h1 rfl
theorem Xv {t:Bool} (h1:t=true->p) (h2:t=false->q):Ne3 (.bool t) p q:=by
 cases t
 ·exact h2 rfl
 ·exact h1 rfl
theorem N3r {a b:Int}:(a == b)=decide (a=b):=by by_cases h:a=b<;>simp [h]
theorem N3q {a b:Int}:(a != b)=decide (¬a=b):=by by_cases h:a=b<;>simp [h,bne]
theorem N3g:(!decide c)=decide (¬c):=by by_cases h:c<;>simp [h]
end
def TL (off size:Nat) (v:Value) (c:List Value):Option (List Value):=
 if v.cells.toList.length=size/\off+size<=c.length/\NA v=true then some (QN c off v.cells.toList) else none
def Nme (ρ:Operand->Value) (rest:List (Nat×Nat×Operand)) (r:Option (List Value)):Option (List Value):=match r with | some c=>RP ρ rest c | none=>none
theorem Nes {ρ:Operand->Value} {off size:Nat} {x:Operand} {rest:List (Nat×Nat×Operand)} {c:List Value}:RP ρ ((off,size,x)::rest) c=Nme ρ rest (TL off size (ρ x) c):=by
 unfold Nme TL
 simp only [RP]
 split<;>rfl
theorem Nf5 {ρ:Operand->Value} {c:List Value}:RP ρ [] c=some c:=rfl
theorem Npv {ρ:Operand->Value} {rest:List (Nat×Nat×Operand)} {c:List Value}:Nme ρ rest (some c)=RP ρ rest c:=rfl
theorem Nmd {ρ:Operand->Value} {rest:List (Nat×Nat×Operand)} {r r':Option (List Value)} (h:r=r'):Nme ρ rest r=Nme ρ rest r':=by rw [h]
theorem Nmc {off size:Nat} {v v':Value} {c:List Value} (h:v=v'):TL off size v c=TL off size v' c:=by rw [h]
attribute [congr] Nmd Nmc
theorem VQ {off:Nat} {v:Value} {c:List Value} (b:v.oneCell'=true) (a:NA v=true) (h:off<c.length):TL off 1 v c=some (c.set off v):=by
 cases v<;>first | (simp [Value.oneCell'] at b;done) | (simp [NA] at a;done) | (unfold TL;rw [Ni ⟨by simp [Value.cells],h,a⟩];rfl)
theorem Nux {off:Nat} {k:IntKind} {n:Int} {c:List Value} (h:off<c.length):TL off 1 (.int k n) c=some (c.set off (.int k n)):=VQ rfl rfl h
theorem Npu {off:Nat} {b:Bool} {c:List Value} (h:off<c.length):TL off 1 (.bool b) c=some (c.set off (.bool b)):=VQ rfl rfl h
theorem Nuy {off n:Nat} {l c:List Value} (h:l.length=n/\off+n<=c.length):TL off n (.agg l.toArray) c=some (QN c off l):=by
 unfold TL
 rw [Ni ⟨by simpa [Value.cells] using h.1,h.2,rfl⟩]
 rfl
theorem Nnw {c:List Value} {o:Nat}:QN c o []=c:=rfl
theorem Uq {c:List Value} {o:Nat} {v:Value} {vs:List Value}:QN c o (v::vs)=QN (c.set o v) (o+1) vs:=rfl
section
variable {fr:Nat->Value} {H:NE}
theorem Nvc {a:Array Value}:(Value.agg a).cells=a:=rfl
theorem Nvb {k:IntKind} {n:Int}:(Value.int k n).cells=#[.int k n]:=rfl
theorem Nqc {b:Bool}:(Value.bool b).cells=#[.bool b]:=rfl
theorem N1u {l:List Value}:l.toArray.toList=l:=rfl
theorem N1t {l:List Value}:l.toArray.size=l.length:=rfl
def N06:Option Value->Option (List Value)->Option (List Value)
 | some v,some vs=>some (v::vs)
 | _,_=>none
def N0l:Option (List Value)->Option Value
 | some [v]=>some v
 | some vs=>some (.tuple vs.toArray)
 | none=>none
theorem Nn3:UI fr H []=some []:=rfl
theorem Nkj {r:ARes} {a:List ARes}:UI fr H (r::a)=N06 (ND fr H r) (UI fr H a):=by
 unfold N06
 simp only [UI]
 cases ND fr H r<;>cases UI fr H a<;>rfl
theorem Nn2 {a:List ARes}:result fr H a=N0l (UI fr H a):=by
 unfold N0l result
 cases UI fr H a<;>rfl
theorem Np8 {v:Value} {vs:List Value}:N06 (some v) (some vs)=some (v::vs):=rfl
theorem N0j {v:Value}:N0l (some [v])=some v:=rfl
theorem Nut {v u:Value} {vs:List Value}:N0l (some (v::u::vs))=some (.tuple (v::u::vs).toArray):=rfl
theorem N0k:N0l (some [])=some (.tuple #[]):=rfl
end
def Zv (e:Nat) (x i:Value) (H:NE):Option (Value×NE):=match x,i with
    | .slice (some p) len _,.int _ n=>if 0<=n/\n<(len:Int) then some (.pointer (some (p.add (n.toNat*e))),H) else none
    | _,_=>none
theorem Nm1 {lim:Nat} {dest:Option Nat} {e:Nat} {x i:Operand} {ρ:Operand->Value} {H:NE}:NJ lim dest (.idxAddrS e x i) ρ H=Zv e (ρ x) (ρ i) H:=by
 simp only [NJ];unfold Zv;rfl
theorem Xo {e n len c:Nat} {p:Addr} {k:IntKind} {H:NE} (h:n<len):Zv e (.slice (some p) len c) (.int k (n:Int)) H=some (.pointer (some (p.add (n*e))),H):=by
 unfold Zv
 simp only
 rw [Ni ⟨by omega,by omega⟩]
 simp
section
variable {E:Env} {lim b:Nat} {dest:Option Nat} {mask:List Nat} {fr:Nat->Value} {H:NE} {Q:Value->NE->Prop}
theorem Nkz {e:Nat} {x i:Operand}:oK E lim none none mask (.idxAddrS e x i) fr H Q=RI (Zv e (ev fr x) (ev fr i) H) Q:=by rw [PG rfl,Nm1]
theorem Nk9 {e:Nat} {x i:Operand}:oK E lim (some b) dest mask (.idxAddrS e x i) fr H Q=RI (Zv e (ev fr x) (ev fr i) (OD b mask H)) fun v H'=>Q v (NY b mask H H'):=by rw [OV rfl,Nm1]
end
theorem addr_add {b o n:Nat}:(⟨b,o,none⟩:Addr).add n=⟨b,o+n,none⟩:=by
 simp only [Addr.add]
 first | rfl | (split<;>simp_all)
theorem OG {n:Nat} (h:n+1<2 ^ 63):IntKind.i64.wrap ((n:Int)+1)=((n+1:Nat):Int):=by
 have h1:((n:Int)+1) % 2 ^ 64=(n:Int)+1:=Rd (by omega) (by omega)
 simp only [IntKind.wrap,IntKind.bits,IntKind.signed,h1]
 rw [Nh (by simp;omega)]
 omega
section
variable {b i:Nat} {l:List Nat} {H H0:NE}
theorem Nt3:OD b (i::l) H=OD b l (H.set (b+i) .dead):=rfl
theorem Njw:NY b (i::l) H0 H=NY b l H0 (H.set (b+i) (NF H0 (b+i))):=rfl
theorem N2z:List.replicate 1 Blk.dead=[.dead]:=rfl
theorem Nxx:List.replicate 0 Blk.dead=[]:=rfl
theorem N2y:List.replicate 2 Blk.dead=[.dead,.dead]:=rfl
theorem Ns7:List.replicate 3 Blk.dead=[.dead,.dead,.dead]:=rfl
end
end Go.AM


namespace Go.AM
section
variable {α:Type}
def gt [Inhabited α] (l:List α) (i:Nat):α:=l.getD i default
theorem PZ [Inhabited α] {l:List α} {i:Nat} (h:i<l.length):gt l i=l[i]:=by simp [gt,Na,Nf h]
theorem ML [Inhabited α] {x:α} {l:List α}:gt (x::l) 0=x:=rfl
theorem U5 [Inhabited α] {x:α} {l:List α} {i:Nat}:gt (x::l) (i+1)=gt l i:=by simp [gt]
theorem R6 [Inhabited α] {l:List α} {i:Nat} (h:i<l.length):gt l i∈l:=by rw [PZ h];exact Qn h
def addrOf (p:Option Addr):Addr:=p.getD ⟨0,0,none⟩
def YI (p:Option Addr) (e i:Nat):Addr:=(addrOf p).add (i*e)
def Sl (H:NE) (enc:α->List Value) (e:Nat) (p:Option Addr) (l:List α):Prop:=
 match p with
 | none=>l=[]
 | some a=>a.spot=none/\(l≠[]->∃ro c,NF H a.block=.cells ro c/\a.off+l.length*e<=c.length/\(c.drop a.off).take (l.length*e)=l.flatMap enc)
theorem NK {H:NE} {i:Nat} {ro:Bool} {c:List Value} (h:NF H i=.cells ro c):i<H.length:=by
 rcases Oh i H.length with h1 | h1
 ·exact h1
 ·unfold NF at h
  rw [Na,Nw h1] at h
  cases h
def cellsOf:Blk->List Value | .cells _ c=>c | _=>[]
def isCells:Blk->Bool | .cells _ _=>true | _=>false
theorem ZE {ro:Bool} {c:List Value}:cellsOf (.cells ro c)=c:=rfl
theorem Z9 {ro:Bool} {c:List Value}:isCells (.cells ro c)=true:=id rfl
theorem Sl.app {H:NE} {enc:α->List Value} {e:Nat} {p:Option Addr} {l:List α} (h:Sl H enc e p l) (X:NE):Sl (H++X) enc e p l:=by
 cases p with
 | none=>exact h
 | some a=>
   refine ⟨h.1,fun hn=>?_⟩
   obtain ⟨ro,c,h2,b⟩:=h.2 hn
   exact ⟨ro,c,by rw [NN (NK h2)];exact h2,b⟩
theorem Sl.sim {H G:NE} {enc:α->List Value} {e:Nat} {p:Option Addr} {l:List α} (h:Sl H enc e p l) (f:∀b ro c,NF H b=.cells ro c->NF G b=.cells ro c):Sl G enc e p l:=by
 cases p with
 | none=>exact h
 | some a=>
   refine ⟨h.1,fun hn=>?_⟩
   obtain ⟨ro,c,h2,d⟩:=h.2 hn
   exact ⟨ro,c,f _ _ _ h2,d⟩
theorem PS {enc:α->List Value} {e:Nat} (he:∀x,(enc x).length=e) (l:List α):(l.flatMap enc).length=l.length*e:=by
 induction l with
 | nil=>simp
 | cons x l ih=>simp [ih,he,Ps,Rj]
theorem Nba {enc:α->List Value} {e:Nat} (he:∀x,(enc x).length=e):∀(l:List α) (i:Nat),i<l.length->[Inhabited α]->((l.flatMap enc).drop (i*e)).take e=enc (gt l i)
 | [],i,h,_=>by simp at h
 | x::l,0,_,_=>by
   rw [Ow,Qh,Ov,P7 (by rw [he];exact Nd _),Og (by rw [he];exact Nd _)]
   rfl
 | x::l,i+1,h,_=>by
   rw [Ow,List.drop_append,Qa (by rw [he,Ps];omega),Ok,he,show (i+1)*e-e=i*e by rw [Ps];omega]
   have:=Nba he l i (by simpa using h)
   rw [this,U5]
variable [Inhabited α] {H:NE} {enc:α->List Value} {e:Nat} {p:Option Addr} {l:List α}
theorem Sl.loadCells (h:Sl H enc e p l) (he:∀x,(enc x).length=e) {i:Nat} (hi:i<l.length):AM.loadCells H (YI p e i) e=some (enc (gt l i)):=by
 cases p with
 | none=>simp only [Sl] at h;subst h;simp at hi
 | some a=>
   obtain ⟨b,o,s⟩:=a
   obtain ⟨ro,c,h2,g,d⟩:=h.2 (by rintro rfl;simp at hi)
   have h1:=h.1
   simp only at h1 h2 d g;subst h1
   have j:i*e+e<=l.length*e:=by
    have:=O6 e (Qs hi)
    rw [Po] at this;exact this
   have f:=Nba he l i hi
   rw [<-d,List.drop_take,Ra,List.drop_drop] at f
   simp only [YI,addrOf,Pa,addr_add,AM.loadCells,h2]
   rw [Ni (by omega),<-f,Pz (by omega)]
theorem Sl.loadCell (h:Sl H enc e p l) (he:∀x,(enc x).length=e) {i j:Nat} (hi:i<l.length) (k:j<e):AM.loadCell H ((YI p e i).add j)=(enc (gt l i))[j]?:=by
 have d:=h.loadCells he hi
 cases p with
 | none=>simp only [Sl] at h;subst h;simp at hi
 | some a=>
   obtain ⟨b,o,s⟩:=a
   obtain ⟨ro,c,h2,g,f⟩:=h.2 (by rintro rfl;simp at hi)
   have h1:=h.1
   simp only at h1 h2 f g;subst h1
   simp only [YI,addrOf,Pa,addr_add,AM.loadCells,h2] at d
   split at d
   ·simp only [Option.some.injEq] at d
    rw [<-d]
    simp only [YI,addrOf,Pa,addr_add,AM.loadCell,h2,P9,Q3,Ni k,O9]
   ·cases d
theorem Sl.loadCell0 (h:Sl H enc e p l) (he:∀x,(enc x).length=e) {i:Nat} (hi:i<l.length) (a:0<e):AM.loadCell H (YI p e i)=(enc (gt l i))[0]?:=by
 rw [<-h.loadCell he hi a]
 congr 1
omit [Inhabited α] in
theorem Sl.idx (h:Sl H enc e p l) {i c:Nat} {k:IntKind} {H1:NE} (hi:i<l.length):Zv e (.slice p l.length c) (.int k (i:Int)) H1=some (.pointer (some (YI p e i)),H1):=by
 cases p with
 | none=>simp only [Sl] at h;subst h;simp at hi
 | some a=>exact Xo hi
end
theorem Vj {X:NE} {j:Nat} {b:Blk} (h:j<X.length):NF (X.set j b) j=b:=by
 unfold NF;rw [Na,Q7 h];rfl
theorem QK {X:NE} {i j:Nat} {b:Blk} (h:i≠j):NF (X.set j b) i=NF X i:=by
 unfold NF;rw [Na,Na,Qk (Ne.symm h)]
theorem Nur {α:Type} [Inhabited α] {l:List α} {i:Nat} {w:α->Bool} (h:i<l.length):(l.drop i).find? w=if w (gt l i)=true then some (gt l i) else (l.drop (i+1)).find? w:=by
 rw [Ou h,List.find?_cons,PZ h]
 split<;>simp_all
theorem Nui {e len c:Nat} {p:Addr} {k:IntKind} {H:NE} (h:0<len):Zv e (.slice (some p) len c) (.int k 0) H=some (.pointer (some (p.add 0)),H):=by
 have:=Xo (e:=e) (n:=0) (len:=len) (c:=c) (p:=p) (k:=k) (H:=H) h
 rw [Qh] at this
 exact this
theorem Nue {k:IntKind} {n:Int}:Us (.int k) (.int k n)=true:=by simp [Us]
theorem Nud {b:ByteArray}:Us .str (.string b)=true:=id rfl
theorem Ni3 {k k':IntKind} {a b c d:Int} {v:Value} {es:List (Value×Value)} {i:Nat}:findKey (.agg #[.int k a,.int k' b]) ((.agg #[.int k c,.int k' d],v)::es) i=if a=c/\b=d then some (some (i,v)) else findKey (.agg #[.int k a,.int k' b]) es (i+1):=by
 simp only [findKey,VX,U4,if_true,Nv,Bool.and_true]
 by_cases h:a=c/\b=d
 ·obtain ⟨rfl,rfl⟩:=h
  simp
 ·rw [Nh h]
  have e:((a == c)&&(b == d))=false:=by
   cases he:((a == c)&&(b == d)) with
   | false=>rfl
   | true=>
     simp only [Ny,beq_iff_eq] at he
     exact absurd he h
  simp [e]
theorem Nma {v:Value} {i:Nat}:findKey v [] i=some none:=rfl
theorem YD {k:IntKind} {a b:Int} {v:Value} {es:List (Value×Value)} {i:Nat}:findKey (.int k a) ((.int k b,v)::es) i=if a=b then some (some (i,v)) else findKey (.int k a) es (i+1):=by
 simp only [findKey,VX,if_true]
 by_cases h:a=b
 ·simp [h]
 ·have e:(a == b)=false:=by simpa using h
  simp [h,e]
theorem Ua {H:NE} {r:Nat}:mapEntries H (.map (some r))=(match NF H r with | .map es=>some es | _=>none):=rfl
theorem Ncj {H:NE}:mapEntries H (.map none)=some []:=rfl
theorem XO {α:Type} {k:IntKind} {a:Int} {f:α->Int} {g:α->Value}:∀{l:List α} {i:Nat},(∀x∈l,f x≠a)->findKey (.int k a) (l.map fun x=>(.int k (f x),g x)) i=some none
 | [],_,_=>rfl
 | x::l,i,h=>by
   rw [Oc,YD,Nh (fun e=>h x (by simp) e.symm)]
   exact XO fun y b=>h y (by simp [b])
theorem YC {α:Type} {k:IntKind} {a:Int} {f:α->Int} {g:α->Value} {v:Value}:∀{l:List α} {i:Nat},(∃x∈l,f x=a)->(∀x∈l,f x=a->g x=v)->∃j,findKey (.int k a) (l.map fun x=>(.int k (f x),g x)) i=some (some (j,v))
 | [],_,h,_=>by obtain ⟨x,c,_⟩:=h;simp at c
 | x::l,i,h,hv=>by
   rw [Oc,YD]
   by_cases e:a=f x
   ·exact ⟨i,by rw [Ni e,hv x (by simp) e.symm]⟩
   ·rw [Nh e]
    refine YC ?_ fun y hy=>hv y (by simp [hy])
    obtain ⟨y,hy,b⟩:=h
    rcases Np.1 hy with rfl | hy
    ·exact absurd b.symm e
    ·exact ⟨y,hy,b⟩
def OM (H G:NE):Prop:=∃X,G=H++X
section
variable {H G:NE}
theorem OM.refl:OM H H:=⟨[],by simp⟩
theorem OM.app (h:OM H G) {X:NE}:OM H (G++X):=by
 obtain ⟨Y,rfl⟩:=h
 exact ⟨Y++X,by simp⟩
theorem OM.trans {K:NE} (h:OM H G) (k:OM G K):OM H K:=by
 obtain ⟨Y,rfl⟩:=k
 exact h.app
theorem OM.len (h:OM H G):H.length<=G.length:=by
 obtain ⟨Y,rfl⟩:=h
 simp
theorem OM.sl {α:Type} {enc:α->List Value} {e:Nat} {p:Option Addr} {l:List α} (h:OM H G) (hs:Sl H enc e p l):Sl G enc e p l:=by
 obtain ⟨Y,rfl⟩:=h
 exact hs.app Y
theorem OM.cells (h:OM H G) {b:Nat} {ro:Bool} {c:List Value} (hs:NF H b=.cells ro c):NF G b=.cells ro c:=by
 obtain ⟨Y,rfl⟩:=h
 rw [NN (NK hs)];exact hs
end
section
variable {E:Env} {af:AFunc} {lim:Nat} {K:List AItem} {fr:Nat->Value} {H:NE} {R:Value->NE->Prop} {b:ACode}
theorem NR {S:Type} (m:S->Nat) (I:S->(Nat->Value)->NE->Prop) (s:S) (d:I s fr H)
  (step:∀s fr H,I s fr H->(∀a fr' H',I a fr' H'->m a<m s->PV E af lim (.inLoop b::K) fr' H' R)->PV E af lim (.code b::.inLoop b::K) fr H R) :
  PV E af lim (.code (.loop b)::K) fr H R:=by
 rw [Xz,<-Uk]
 have key:∀n s fr H,m s<=n->I s fr H->PV E af lim (.inLoop b::K) fr H R:=by
  intro n
  induction n with
  | zero=>
    intro s fr H hm hi
    rw [Uk]
    exact step s fr H hi fun a fr' H' _ hl=>absurd hl (by omega)
  | succ n ih=>
    intro s fr H hm hi
    rw [Uk]
    exact step s fr H hi fun a fr' H' c hl=>ih a fr' H' (by omega) c
 exact key _ s fr H (Nd _) d
theorem NL.mono {mp:Bool} {g:FuncId} {as:List Value} {Q Q':Value->NE->Prop} (h:NL E mp lim g as H Q) (a:∀v H',Q v H'->Q' v H'):NL E mp lim g as H Q':=by
 obtain ⟨n,L,h1,h2⟩:=h
 exact ⟨n,L,h1,h2.mono a⟩
theorem PV.mono {k:List AItem} {R':Value->NE->Prop} (h:PV E af lim k fr H R) (a:∀v H',R v H'->R' v H'):PV E af lim k fr H R':=by
 obtain ⟨n,L,h1,h2⟩:=h
 exact ⟨n,L,h1,h2.mono a⟩
theorem NM {k:List AItem} (h:PV E af lim k fr (H++[]) R):PV E af lim k fr H R:=by rwa [Nb] at h
theorem YQ {k k':List AItem} {id:Nat} (h:RA id k=RA id k'):PV E af lim (.code (.exit id)::k) fr H R=PV E af lim (.code (.exit id)::k') fr H R:=by
 cases hk:RA id k' with
 | some K'=>rw [Nfu (h.trans hk),Nfu hk]
 | none=>
   have key:∀{k:List AItem},RA id k=none->¬PV E af lim (.code (.exit id)::k) fr H R:=by
    rintro k hk ⟨n,L,a,_⟩
    cases n with
    | zero=>simp [OZ] at a
    | succ n=>rw [OZ.eq_def] at a;simp only [hk] at a;cases a
   exact propext ⟨fun q=>absurd q (key (h.trans hk)),fun q=>absurd q (key hk)⟩
theorem Ngh {id:Nat} {c:ACode}:PV E af lim (.code (.exit id)::.code c::K) fr H R=PV E af lim (.code (.exit id)::K) fr H R:=YQ (by simp [RA])
theorem Ngf {id:Nat} {c:ACode}:PV E af lim (.code (.exit id)::.inLoop c::K) fr H R=PV E af lim (.code (.exit id)::K) fr H R:=YQ (by simp [RA])
theorem Nfq {id a:Nat} (h:a≠id):PV E af lim (.code (.exit id)::.inBlock a::K) fr H R=PV E af lim (.code (.exit id)::K) fr H R:=YQ (by simp [RA,h])
theorem Ngg {id:Nat}:PV E af lim (.code (.exit id)::.inBlock id::K) fr H R=PV E af lim K fr H R:=Nfu (by simp [RA])
def N5e (r:Option NE) (f:NE->Prop) (_:Bx f:=⟨⟩):Prop:=match r with | some H'=>f H' | none=>False
theorem Nnv {f:NE->Prop}:N5e (some H) f=f H:=rfl
theorem N15:PV E af lim (.code .retM::K) fr H R=N5e (shut lim (marks K) H) fun H'=>RI ((result fr H' af.results).map (·,H')) R:=by
 rw [SK (r:=match shut lim (marks K) H with | some H'=>(result fr H' af.results).map (·,H') | none=>none) fun n=>by rw [OZ.eq_def];simp only;cases shut lim (marks K) H<;>rfl]
 cases shut lim (marks K) H<;>rfl
theorem Nt4:marks []=[]:=rfl
theorem No6 {c:ACode}:marks (.code c::K)=marks K:=rfl
theorem No5 {c:ACode}:marks (.inLoop c::K)=marks K:=rfl
theorem Nlk {id:Nat}:marks (.inBlock id::K)=marks K:=rfl
theorem No4 {i:Nat}:marks (.mark i::K)=marks K++[i]:=rfl
theorem Mx:shut lim [] H=some H:=rfl
theorem Zb {i:Nat} {l:List Nat} (h:NF H i=.dfr) (hl:lim<=i):shut lim (i::l) H=shut lim l (H.set i .dead):=by simp only [shut,h,Ni hl]
def Np0 (i:Nat) (j:Option ACode) (H:NE) (b:Blk):Option (Value×NE):=match b with | .loop x=>some (.bool j.isNone,H.set i (.loop { x with st:=if j.isNone then 0 else 2,pend:=j })) | _=>none
theorem N39 {i st N:Nat} {p:Option ACode} {g:Nat->Value} {ps:List Nat} {a b:ACode}:Np0 i none H (.loop ⟨st,p,g,N,ps,a,b⟩)=some (.bool true,H.set i (.loop ⟨0,none,g,N,ps,a,b⟩)):=rfl
theorem N0u {i st N:Nat} {p:Option ACode} {g:Nat->Value} {ps:List Nat} {a b c:ACode}:Np0 i (some c) H (.loop ⟨st,p,g,N,ps,a,b⟩)=some (.bool false,H.set i (.loop ⟨2,some c,g,N,ps,a,b⟩)):=rfl
theorem XP {i:Nat} {j:Option ACode}:endRound i j H=Np0 i j H (NF H i):=by unfold endRound Np0;cases NF H i<;>rfl
theorem Nwg {i:Nat} (hl:lim<=i):PV E af lim (.round i::K) fr H R=RI (Np0 i none H (NF H i)) R:=by
 rw [<-XP];exact SK fun n=>by rw [OZ.eq_def];simp only [Ni hl]
def N4l (b:Blk) (f:LoopB->Prop) (_:Bx f:=⟨⟩):Prop:=match b with | .loop x=>if x.st=0 then f x else False | _=>False
theorem Nvk {N:Nat} {p:Option ACode} {g:Nat->Value} {ps:List Nat} {a b:ACode} {f:LoopB->Prop}:N4l (.loop ⟨0,p,g,N,ps,a,b⟩) f=f ⟨0,p,g,N,ps,a,b⟩:=by simp [N4l]
theorem Nwm {i:Nat} (hl:lim<=i):PV E af lim (.begin i::K) fr H R=N4l (NF H i) fun x=>PV E af lim K fr (H.set i (.loop { x with st:=1 })) R:=by
 unfold N4l
 have a:(∀n,OZ E (n+1) af lim (.begin i::K) fr H=none)->PV E af lim (.begin i::K) fr H R=False:=fun h=>by rw [SK (r:=none) fun n=>(h n).trans rfl];rfl
 cases hb:NF H i with
 | loop x=>
   simp only
   split
   ·rename_i hs
    exact PV.succ fun n=>by rw [OZ.eq_def];simp only [hb,Ni (And.intro hs hl)]
   ·rename_i hs
    exact a fun n=>by rw [OZ.eq_def];simp only [hb,hs,false_and,if_false]
 | _=>exact a fun n=>by rw [OZ.eq_def];simp only [hb]
theorem Nwh {k:List AItem} (h:∀n,OZ E (n+1) af lim k fr H=none):PV E af lim k fr H R=False:=by rw [SK (r:=none) fun n=>(h n).trans rfl];rfl
theorem YP {k k':List AItem} (h:roundOf k=roundOf k'):PV E af lim (.code .retR::k) fr H R=PV E af lim (.code .retR::k') fr H R:=by
 rw [SK (r:=match roundOf k with | some i=>if lim<=i then endRound i (some .retM) H else none | none=>none) fun n=>by rw [OZ.eq_def];simp only;cases roundOf k with | none=>rfl | some i=>simp only;split<;>rfl,
  SK (k:=.code .retR::k') (r:=match roundOf k' with | some i=>if lim<=i then endRound i (some .retM) H else none | none=>none) fun n=>by rw [OZ.eq_def];simp only;cases roundOf k' with | none=>rfl | some i=>simp only;split<;>rfl,h]
theorem Nge {c:ACode}:PV E af lim (.code .retR::.code c::K) fr H R=PV E af lim (.code .retR::K) fr H R:=YP rfl
theorem Ngd {c:ACode}:PV E af lim (.code .retR::.inLoop c::K) fr H R=PV E af lim (.code .retR::K) fr H R:=YP rfl
theorem Nfp {id:Nat}:PV E af lim (.code .retR::.inBlock id::K) fr H R=PV E af lim (.code .retR::K) fr H R:=YP rfl
theorem Nfo {i:Nat} (hl:lim<=i):PV E af lim (.code .retR::.round i::K) fr H R=RI (Np0 i (some .retM) H (NF H i)) R:=by
 rw [<-XP];exact SK fun n=>by rw [OZ.eq_def];simp only [roundOf,Ni hl]
theorem Yb {k k':List AItem} {id:Nat} (h:RA id k=RA id k') (h2:roundOf k=roundOf k'):PV E af lim (.code (.exitR id)::k) fr H R=PV E af lim (.code (.exitR id)::k') fr H R:=by
 cases hk:RA id k' with
 | some K'=>
   exact (PV.succ (k1:=K') (fr1:=fr) (H1:=H) fun n=>by rw [OZ.eq_def];simp only [h.trans hk]).trans (PV.succ fun n=>by rw [OZ.eq_def];simp only [hk]).symm
 | none=>
   rw [SK (r:=match roundOf k with | some i=>if lim<=i then endRound i (some (.exit id)) H else none | none=>none) fun n=>by rw [OZ.eq_def];simp only [h.trans hk];cases roundOf k with | none=>rfl | some i=>simp only;split<;>rfl,
    SK (k:=.code (.exitR id)::k') (r:=match roundOf k' with | some i=>if lim<=i then endRound i (some (.exit id)) H else none | none=>none) fun n=>by rw [OZ.eq_def];simp only [hk];cases roundOf k' with | none=>rfl | some i=>simp only;split<;>rfl,h2]
theorem Nft {id:Nat} {c:ACode}:PV E af lim (.code (.exitR id)::.code c::K) fr H R=PV E af lim (.code (.exitR id)::K) fr H R:=Yb (by simp [RA]) rfl
theorem Nfr {id:Nat} {c:ACode}:PV E af lim (.code (.exitR id)::.inLoop c::K) fr H R=PV E af lim (.code (.exitR id)::K) fr H R:=Yb (by simp [RA]) rfl
theorem Ncn {id a:Nat} (h:a≠id):PV E af lim (.code (.exitR id)::.inBlock a::K) fr H R=PV E af lim (.code (.exitR id)::K) fr H R:=Yb (by simp [RA,h]) rfl
theorem Nfs {id:Nat}:PV E af lim (.code (.exitR id)::.inBlock id::K) fr H R=PV E af lim K fr H R:=PV.succ fun n=>by rw [OZ.eq_def];simp [RA]
theorem Ncm {id i:Nat} (hl:lim<=i):PV E af lim (.code (.exitR id)::.round i::[]) fr H R=RI (Np0 i (some (.exit id)) H (NF H i)) R:=by
 rw [<-XP];exact SK fun n=>by rw [OZ.eq_def];simp only [RA,roundOf,Ni hl]
def Y2 (x:LoopB):List AItem:=match x.pend with | none=>[] | some c=>[.code c]
theorem Noc {st N:Nat} {g:Nat->Value} {ps:List Nat} {a b:ACode}:Y2 ⟨st,none,g,N,ps,a,b⟩=[]:=rfl
theorem Nob {st N:Nat} {g:Nat->Value} {ps:List Nat} {a b c:ACode}:Y2 ⟨st,some c,g,N,ps,a,b⟩=[.code c]:=rfl
def N7j (c:Option ((FuncId ⊕ Nat)×List Value)) (f:FuncId->List Value->Prop) (_:Bx f:=⟨⟩):Prop:=match c with | some (.inl g,as)=>f g as | _=>False
theorem Nvd {g:FuncId} {as:List Value} {f:FuncId->List Value->Prop}:N7j (some (.inl g,as)) f=f g as:=rfl
def Ym (b:Blk) (f:LoopB->Prop) (_:Bx f:=⟨⟩):Prop:=match b with | .loop x=>if x.st=1 then False else f x | _=>False
theorem N0t {N:Nat} {p:Option ACode} {g:Nat->Value} {ps:List Nat} {a b:ACode} {f:LoopB->Prop}:Ym (.loop ⟨0,p,g,N,ps,a,b⟩) f=f ⟨0,p,g,N,ps,a,b⟩:=by simp [Ym]
theorem N7d {N:Nat} {p:Option ACode} {g:Nat->Value} {ps:List Nat} {a b:ACode} {f:LoopB->Prop}:Ym (.loop ⟨2,p,g,N,ps,a,b⟩) f=f ⟨2,p,g,N,ps,a,b⟩:=by simp [Ym]
theorem Nuz {x:LoopB} {f:LoopB->Prop} (h:x.st≠1):Ym (.loop x) f=f x:=by simp [Ym,h]
theorem Npz {b b':Blk} {f:LoopB->Prop} (h:b=b'):Ym b f=Ym b' f:=by rw [h]
theorem Nm6 {f:Operand} {ps:List Nat} {a b:ACode} {g:FuncId} {as:List Value} (hc:NC (ev fr f) [.func (.yield (H.length+1)) #[] #[]] = some (.inl g,as)) :
  PV E af lim (.code (.rangeF f ps a b)::K) fr H R=NL E false lim g as (H++[.dfr,.loop ⟨0,none,fr,af.ntmps,ps,a,b⟩]) fun _ Q=>
   Ym (NF Q (H.length+1)) fun x=>PV E af lim (Y2 x++(K++[.mark H.length])) fr (Q.set (H.length+1) .dead) R:=by
 let F:=fun (n:Nat) (r:Value×NE)=>match NF r.2 (H.length+1) with
  | .loop x=>if x.st=1 then none else OZ E n af lim ((match x.pend with | none=>[] | some c=>[AItem.code c])++(K++[AItem.mark H.length])) fr (r.2.set (H.length+1) .dead)
  | _=>none
 have I:∀n r s,F n r=some s->∃x,NF r.2 (H.length+1)=.loop x/\x.st≠1/\OZ E n af lim (Y2 x++(K++[.mark H.length])) fr (r.2.set (H.length+1) .dead)=some s:=fun n r s h=>by
  simp only [F] at h
  split at h
  case h_2=>cases h
  rename_i x w
  split at h
  ·cases h
  rename_i j
  exact ⟨x,w,j,h⟩
 have t:∀n r x s,NF r.2 (H.length+1)=.loop x->x.st≠1->OZ E n af lim (Y2 x++(K++[.mark H.length])) fr (r.2.set (H.length+1) .dead)=some s->F n r=some s:=fun n r x s w j h=>by
  simp only [F,w,Nh j]
  exact h
 have B:∀n r s,F n r=some s->s≠[]:=fun n r s h=>by
  obtain ⟨x,_,_,h⟩:=I n r s h
  exact Zq E _ _ _ _ _ _ _ h
 have d:∀{n m r s},n<=m->F n r=some s->F m r=some s:=fun {n m r s} J h=>by
  obtain ⟨x,h1,h2,G⟩:=I n r s h
  exact t m r x s h1 h2 (VL E J G)
 have o:∀n,OZ E (n+1) af lim (.code (.rangeF f ps a b)::K) fr H=match QQ E (OZ E n) false lim (.inl g) as (H++[.dfr,.loop ⟨0,none,fr,af.ntmps,ps,a,b⟩]) with
   | some L=>TM (F n) L
   | none=>none:=fun n=>by rw [OZ.eq_def];simp only [hc];rfl
 apply propext
 constructor
 ·rintro ⟨n,L,k,hr⟩
  cases n with
  | zero=>simp [OZ] at k
  | succ n=>
  rw [o] at k
  split at k
  case h_2=>cases k
  rename_i L0 i
  refine ⟨n,L0,i,fun hd=>?_,fun r hr'=>?_⟩
  ·obtain ⟨y,D⟩:=hr.1 hd
   exact Zp k (fun x _ s hs=>B n x s hs) D
  ·obtain ⟨s,hs,C⟩:=UR k r hr'
   obtain ⟨x,h1,h2,G⟩:=I n r s hs
   rw [h1,Nuz h2]
   refine ⟨n,s,G,fun hd=>?_,fun q M=>hr.2 q (C q M)⟩
   obtain ⟨y,D⟩:=hr.1 hd
   obtain ⟨z,P⟩:=Zp k (fun x _ s hs=>B n x s hs) D
   subst P
   rw [Nj] at hr'
   subst hr'
   simp only [TM,hs,Option.some.injEq,Nb] at k
   exact ⟨y,k.trans D⟩
 ·rintro ⟨n,L0,i,hd,h2⟩
  have v:∃N,∀r∈L0,∃s,F N r=some s/\Nah E.dt s R:=by
   clear hd i
   induction L0 with
   | nil=>exact ⟨0,fun r hr=>by cases hr⟩
   | cons y L0 ih=>
     obtain ⟨N,u⟩:=ih fun r hr=>h2 r (by simp [hr])
     have hk:=h2 y (by simp)
     simp only [Ym] at hk
     split at hk
     case h_2=>exact hk.elim
     rename_i x w
     split at hk
     ·exact hk.elim
     rename_i j
     obtain ⟨m,s,k,hr⟩:=hk
     refine ⟨max N m,fun r hr'=>?_⟩
     rcases Np.1 hr' with rfl | hr'
     ·exact ⟨s,d (Pk N m) (t m r x s w j k),hr⟩
     ·obtain ⟨S,T,U⟩:=u r hr'
      exact ⟨S,d (P6 N m) T,U⟩
  obtain ⟨N,u⟩:=v
  have e:QQ E (OZ E (max n N)) false lim (.inl g) as (H++[.dfr,.loop ⟨0,none,fr,af.ntmps,ps,a,b⟩])=some L0:=Wl E (P6 n N) _ _ _ _ _ _ i
  obtain ⟨L,hL⟩:=XX (f:=F (max n N)) (l:=L0) fun r hr=>by
   obtain ⟨s,hs,_⟩:=u r hr
   exact ⟨s,d (Pk n N) hs⟩
  refine ⟨max n N+1,L,by rw [o,e];exact hL,fun A=>?_,fun q M=>?_⟩
  ·obtain ⟨y,rfl⟩:=hd A
   obtain ⟨s,hs,ho⟩:=u y (by simp)
   have p:=d (Pk n N) hs
   simp only [TM,p,Option.some.injEq,Nb] at hL
   obtain ⟨z,P⟩:=ho.1 A
   exact ⟨z,by rw [<-hL,P]⟩
  ·obtain ⟨r,hr,s,hs,O⟩:=UT hL q M
   obtain ⟨S,p,ho⟩:=u r hr
   have:=d (Pk n N) p
   rw [hs] at this
   cases this
   exact ho.2 q O
theorem Nqu {f:Operand} {ps:List Nat} {a b:ACode} :
  PV E af lim (.code (.rangeF f ps a b)::K) fr H R=N7j (NC (ev fr f) [.func (.yield (H.length+1)) #[] #[]]) fun g as=>NL E false lim g as (H++[.dfr,.loop ⟨0,none,fr,af.ntmps,ps,a,b⟩]) fun _ c=>
   Ym (NF c (H.length+1)) fun x=>PV E af lim (Y2 x++(K++[.mark H.length])) fr (c.set (H.length+1) .dead) R:=by
 unfold N7j
 split
 ·rename_i g as hc;exact Nm6 hc
 ·rename_i hc
  refine Nwh fun n=>?_
  rw [OZ.eq_def]
  simp only
theorem WL.det {mp:Bool} {i:Nat} {as:List Value} {Q:Value->NE->Prop} {n:Nat} {v:Value} {H':NE} (h:Rw E n mp lim (.inr i) as H=some [(v,H')]):WL E mp lim i as H Q=Q v H':=by
 rw [<-Nhr,Wu.all h,UA]
theorem WL.mono {mp:Bool} {i:Nat} {as:List Value} {Q Q':Value->NE->Prop} (h:WL E mp lim i as H Q) (a:∀v H',Q v H'->Q' v H'):WL E mp lim i as H Q':=by
 obtain ⟨n,L,h1,h2⟩:=h
 exact ⟨n,L,h1,h2.mono a⟩
theorem X0 {i:Nat} {as:List Value} {Q:Value->NE->Prop} {x:LoopB} (b:NF H i=.loop x) (hl:lim<=i) (a:as.length=x.params.length) (hp:(x.params.all (·<x.N))=true) :
  WL E false lim i as H Q=PV E ⟨x.N,[],.skip⟩ lim [.code x.assign,.begin i,.code x.body,.round i] (Te x.fr x.params as) H Q:=by
 unfold WL PV Rw QQ
 simp only [b,Ni (And.intro hl (And.intro a hp)),Nx,if_false]
theorem NS {c a:ACode} (h:c=a):PV E af lim (.code c::K) fr H R=PV E af lim (.code a::K) fr H R:=by rw [h]
theorem Nir {b o:Nat} {s:Option Nat}:AM.loadCell H ⟨b,o,s⟩=(match NF H b with | .cells _ c=>c[o]? | _=>none):=rfl
theorem PU {b o n:Nat} {s:Option Nat}:AM.loadCells H ⟨b,o,s⟩ n=(match NF H b with | .cells _ c=>if o+n<=c.length then some ((c.drop o).take n) else none | _=>none):=rfl
theorem Vd {b o:Nat} {s:Option Nat} {vs:List Value}:AM.storeAt lim H ⟨b,o,s⟩ vs=(match NF H b with | .cells false c=>if lim<=b/\o+vs.length<=c.length then some (H.set b (.cells false (QN c o vs))) else none | _=>none):=rfl
theorem NL.eq {mp:Bool} {g:FuncId} {as:List Value} {Q:Value->NE->Prop} {v:Value} {H':NE} (h:NL E mp lim g as H fun v' H1=>v'=v/\H1=H'):NL E mp lim g as H Q=Q v H':=by
 obtain ⟨n,L,h1,h2⟩:=h
 rw [<-Nbj,Wu.all h1]
 have c:=N1w E h1
 obtain ⟨x,d⟩:=Q5 _ c
 have e:∀r∈L,r=(v,H'):=fun r hr=>by
  obtain ⟨a,b⟩:=h2.2 r hr
  exact Prod.ext a b
 apply propext
 constructor
 ·intro h
  have:=h.2 x d
  rw [e x d] at this
  exact this
 ·exact fun f=>⟨h2.1,fun r hr=>by rw [e r hr];exact f⟩
end
section
variable {p q:Prop} {t b:Bool}
theorem Njp:TU undef b p q=q:=by unfold undef TU;rfl
theorem Nsa:TU (.bool (!t)) b p q=TU (.bool t) (!b) p q:=by cases t<;>cases b<;>simp [TU]
theorem Nu6:Ne3 (.bool (!t)) p q=Ne3 (.bool t) q p:=by cases t<;>rfl
end
theorem NU {a b:Nat}:((a:Int)<(b:Int))=(a<b):=by simp
theorem Nl0 {a b:Nat}:((a:Int)<=(b:Int))=(a<=b):=by simp
theorem Nlz {a:Nat}:((0:Int)<(a:Int))=(0<a):=by simp
theorem NT {n:Int} (h1:-2 ^ 63<=n) (h2:n<2 ^ 63):IntKind.i64.wrap n=n:=by
 by_cases h:0<=n
 ·have h1:n % 2 ^ 64=n:=Rd h (by omega)
  simp only [IntKind.wrap,IntKind.bits,IntKind.signed,h1]
  rw [Nh (by simp;omega)]
 ·have h1:n % 2 ^ 64=n+2 ^ 64:=by
   rw [<-Int.add_emod_right,Rd (by omega) (by omega)]
  simp only [IntKind.wrap,IntKind.bits,IntKind.signed,h1]
  rw [Ni (by simp;omega)]
  omega
theorem QX {n:Nat} (h:0<n) (h2:n<2 ^ 63):IntKind.i64.wrap ((n:Int)-1)=((n-1:Nat):Int):=by rw [NT (by omega) (by omega)];omega
theorem Npn {H:NE} {b:Nat} (h:isCells (NF H b)=true):∃ro,NF H b=.cells ro (cellsOf (NF H b)):=by
 cases hb:NF H b with
 | cells ro c=>exact ⟨ro,by simp [cellsOf]⟩
 | _=>rw [hb] at h;simp [isCells] at h
theorem Sl.lit {α:Type} {H:NE} {enc:α->List Value} {e b:Nat} {l:List α} (he:∀x,(enc x).length=e) (h:isCells (NF H b)=true) (hc:cellsOf (NF H b)=l.flatMap enc):Sl H enc e (some ⟨b,0,none⟩) l:=by
 obtain ⟨ro,h1⟩:=Npn h
 refine ⟨rfl,fun _=>⟨ro,_,h1, ?_, ?_⟩⟩
 ·rw [hc,PS he];simp
 ·rw [hc,Ov,Og (by rw [PS he];exact Nd _)]
theorem Nmp {a:Option Addr} {n c:Nat}:(Value.slice a n c).cells=#[.slice a n c]:=rfl
theorem Nu9 {a:Option Addr}:(Value.pointer a).cells=#[.pointer a]:=rfl
theorem Nu8 {s:ByteArray}:(Value.string s).cells=#[.string s]:=rfl
theorem Oes {v:Value}:(#[v]:Array Value).toList=[v]:=rfl
theorem N8u {v:Value}:(#[v]:Array Value).size=1:=rfl
theorem Nva {a:Option Nat}:(Value.map a).cells=#[.map a]:=rfl
theorem cells_func {f:Fn} {a b:Array Value}:(Value.func f a b).cells=#[.func f a b]:=rfl
theorem Nmb {off:Nat} {a:Option Addr} {n m:Nat} {c:List Value} (h:off<c.length):TL off 1 (.slice a n m) c=some (c.set off (.slice a n m)):=VQ rfl rfl h
theorem Nuv {off:Nat} {a:Option Addr} {c:List Value} (h:off<c.length):TL off 1 (.pointer a) c=some (c.set off (.pointer a)):=VQ rfl rfl h
theorem Nuu {off:Nat} {a:ByteArray} {c:List Value} (h:off<c.length):TL off 1 (.string a) c=some (c.set off (.string a)):=VQ rfl rfl h
theorem Nuw {off:Nat} {a:Option Nat} {c:List Value} (h:off<c.length):TL off 1 (.map a) c=some (c.set off (.map a)):=VQ rfl rfl h
theorem N9f:List.replicate 4 Blk.dead=[.dead,.dead,.dead,.dead]:=rfl
theorem N9e:List.replicate 5 Blk.dead=[.dead,.dead,.dead,.dead,.dead]:=rfl
theorem N9d:List.replicate 6 Blk.dead=[.dead,.dead,.dead,.dead,.dead,.dead]:=rfl
theorem N9c:List.replicate 7 Blk.dead=[.dead,.dead,.dead,.dead,.dead,.dead,.dead]:=rfl
theorem N9b:List.replicate 8 Blk.dead=[.dead,.dead,.dead,.dead,.dead,.dead,.dead,.dead]:=rfl
theorem N9a:List.replicate 9 Blk.dead=[.dead,.dead,.dead,.dead,.dead,.dead,.dead,.dead,.dead]:=rfl
theorem N6p:List.replicate 10 Blk.dead=[.dead,.dead,.dead,.dead,.dead,.dead,.dead,.dead,.dead,.dead]:=rfl
theorem N6o:List.replicate 11 Blk.dead=[.dead,.dead,.dead,.dead,.dead,.dead,.dead,.dead,.dead,.dead,.dead]:=rfl
theorem N6n:List.replicate 12 Blk.dead=[.dead,.dead,.dead,.dead,.dead,.dead,.dead,.dead,.dead,.dead,.dead,.dead]:=rfl
theorem Nmr:bytesOf []=some []:=rfl
theorem Nja {n:Int} {l:List Value}:bytesOf (.int .u8 n::l)=(bytesOf l).map (UInt8.ofNat n.toNat::·):=by
 simp only [bytesOf];cases bytesOf l<;>rfl
theorem Nl1 {a b:Nat}:((a:Int)=(b:Int))=(a=b):=propext Int.ofNat_inj
theorem Nke {v:Value} {c vs:List Value}:∀{o:Nat},QN (v::c) (o+1) vs=v::QN c o vs:=by
 induction vs generalizing c with
 | nil=>intro o;rfl
 | cons u vs ih=>intro o;rw [Uq,Uq,Q1];exact ih
theorem NI {l:List Value} {n:Nat} (h:l.length=n):l.take n=l:=by subst h;exact Oo
theorem Nle {n:Nat}:((n:Int)<0)=False:=by simp
theorem NH {c vs:List Value} (h:vs.length=c.length):QN c 0 vs=vs:=by
 have key:∀(vs c pre:List Value),vs.length=c.length->QN (pre++c) pre.length vs=pre++vs:=by
  intro vs
  induction vs with
  | nil=>intro c pre h;have:c=[]:=List.length_eq_zero_iff.1 h.symm;subst this;rfl
  | cons v vs ih=>
    intro c pre h
    match c,h with
    | x::c,h=>
      rw [Uq]
      have e1:(pre++x::c).set pre.length v=(pre++[v])++c:=by simp
      rw [e1]
      have:=ih c (pre++[v]) (by simpa using h)
      rw [Nm] at this
      simp only [Nl,Ns,N0] at this
      rw [this];simp
 exact key vs c [] h
def N8h (v:Value) (H:NE):Option (Value×NE):=match v with
 | .slice none n _=>if n=0 then some (.string .empty,H) else none
 | .slice (some a) n _=>match loadCells H a n with
   | some cs=>match bytesOf cs with
     | some bs=>some (.string ⟨bs.toArray⟩,H)
     | none=>none
   | none=>none
 | _=>none
theorem Nvm {a:Addr} {n c:Nat} {H:NE}:N8h (.slice (some a) n c) H=(match AM.loadCells H a n with
  | some cs=>match bytesOf cs with
    | some bs=>some (.string ⟨bs.toArray⟩,H)
    | none=>none
  | none=>none):=rfl
theorem N26 {E:Env} {lim:Nat} {mask:List Nat} {fr:Nat->Value} {H:NE} {Q:Value->NE->Prop} {a:Operand}:oK E lim none none mask (.b2s a) fr H Q=RI (N8h (ev fr a) H) Q:=PG rfl
theorem N3d {E:Env} {lim b:Nat} {dest:Option Nat} {mask:List Nat} {fr:Nat->Value} {H:NE} {Q:Value->NE->Prop} {a:Operand}:oK E lim (some b) dest mask (.b2s a) fr H Q=RI (N8h (ev fr a) (OD b mask H)) fun v H'=>Q v (NY b mask H H'):=OV rfl
def unV:Operand->Value
 | .const v=>v
 | _=>undef
def VS (e:Nat) (v:Value) (lo hi mx:Option Value):Option Value:=Uc e unV v (lo.map .const) (hi.map .const) (mx.map .const)
theorem Nvs {e:Nat} {ρ:Operand->Value} {v:Value} {lo hi mx:Option Operand}:Uc e ρ v lo hi mx=VS e v (lo.map ρ) (hi.map ρ) (mx.map ρ):=by
 unfold VS Uc
 cases v with
 | slice a n c=>cases lo<;>cases hi<;>cases mx<;>rfl
 | _=>rfl
def copyV (lim esz:Nat) (d x:Value) (H:NE):Option (Value×NE):=match d,lenOf x with
    | .slice base dl _,some sl=>match Uv H esz (min sl dl) x with
      | some cs=>match base with
        | some a=>if min sl dl=0 then some (.int .i64 0,H) else (storeAt lim H a cs).map (.int .i64 (min sl dl:Nat),·)
        | none=>if dl=0 then some (.int .i64 0,H) else none
      | none=>none
    | _,_=>none
theorem Nx5 {E:Env} {lim e:Nat} {mask:List Nat} {fr:Nat->Value} {H:NE} {Q:Value->NE->Prop} {d x:Operand}:oK E lim none none mask (.copy e d x) fr H Q=RI (copyV lim e (ev fr d) (ev fr x) H) Q:=PG rfl
theorem Nyi {E:Env} {lim b e:Nat} {dest:Option Nat} {mask:List Nat} {fr:Nat->Value} {H:NE} {Q:Value->NE->Prop} {d x:Operand}:oK E lim (some b) dest mask (.copy e d x) fr H Q=RI (copyV lim e (ev fr d) (ev fr x) (OD b mask H)) fun v H'=>Q v (NY b mask H H'):=OV rfl
def XD (n e:Nat) (v:Value) (lo hi mx:Option Value):Option Value:=match v with
 | .pointer (some a)=>match bounds unV n n (lo.map .const) (hi.map .const) (mx.map .const) with
   | some (l,h,m)=>if m<2 ^ 62 then some (.slice (some (if m=l then a else a.add (l*e))) (h-l) (m-l)) else none
   | none=>none
 | _=>none
theorem Nj8 {lim n e:Nat} {dest:Option Nat} {ρ:Operand->Value} {x:Operand} {lo hi mx:Option Operand} {H:NE}:NJ lim dest (.sliceA n e x lo hi mx) ρ H=(XD n e (ρ x) (lo.map ρ) (hi.map ρ) (mx.map ρ)).map (·,H):=by
 have b:bounds unV n n ((lo.map ρ).map .const) ((hi.map ρ).map .const) ((mx.map ρ).map .const)=bounds ρ n n lo hi mx:=by
  cases lo<;>cases hi<;>cases mx<;>rfl
 simp only [NJ,XD,b]
 cases ρ x with
 | pointer a=>
   cases a with
   | none=>rfl
   | some a=>
     simp only
     cases bounds ρ n n lo hi mx with
     | none=>rfl
     | some p=>
       obtain ⟨l,h,m⟩:=p
       simp only
       split<;>rfl
 | _=>rfl
theorem Noj {E:Env} {lim n e:Nat} {mask:List Nat} {fr:Nat->Value} {H:NE} {Q:Value->NE->Prop} {x:Operand} {lo hi mx:Option Operand}:oK E lim none none mask (.sliceA n e x lo hi mx) fr H Q=RI ((XD n e (ev fr x) (lo.map (ev fr)) (hi.map (ev fr)) (mx.map (ev fr))).map (·,H)) Q:=by
 rw [PG rfl,Nj8]
theorem Noq {E:Env} {lim b n e:Nat} {dest:Option Nat} {mask:List Nat} {fr:Nat->Value} {H:NE} {Q:Value->NE->Prop} {x:Operand} {lo hi mx:Option Operand}:oK E lim (some b) dest mask (.sliceA n e x lo hi mx) fr H Q=RI ((XD n e (ev fr x) (lo.map (ev fr)) (hi.map (ev fr)) (mx.map (ev fr))).map (·,OD b mask H)) fun v H'=>Q v (NY b mask H H'):=by
 rw [OV rfl,Nj8]
def Wi (lim:Nat) (dest:Option Nat) (esz bytes:Nat) (str:Bool) (s x:Value) (H:NE):Option (Value×NE):=match s with
    | .slice none n c=>OT lim dest esz bytes str (.slice none n c) x H
    | .slice (some a) n c=>if c=loose esz\/c=n then OT lim dest esz bytes str (.slice (some a) n c) x H else none
    | _=>none
theorem Nk2 {E:Env} {lim e b:Nat} {str:Bool} {mask:List Nat} {fr:Nat->Value} {H:NE} {Q:Value->NE->Prop} {s x:Operand}:oK E lim none none mask (.appendL e b str s x) fr H Q=RI (Wi lim none e b str (ev fr s) (ev fr x) H) Q:=PG rfl
theorem Nlc {E:Env} {lim e b' b:Nat} {str:Bool} {dest:Option Nat} {mask:List Nat} {fr:Nat->Value} {H:NE} {Q:Value->NE->Prop} {s x:Operand}:oK E lim (some b) dest mask (.appendL e b' str s x) fr H Q=RI (Wi lim (dest.map (b+·)) e b' str (ev fr s) (ev fr x) (OD b mask H)) fun v H'=>Q v (NY b mask H H'):=OV rfl
theorem Nga {lim e b n c:Nat} {str:Bool} {dest:Option Nat} {x:Value} {H:NE}:Wi lim dest e b str (.slice none n c) x H=OT lim dest e b str (.slice none n c) x H:=rfl
theorem UY {lim e b n c:Nat} {str:Bool} {dest:Option Nat} {x:Value} {H:NE} {a:Addr}:Wi lim dest e b str (.slice (some a) n c) x H=if c=loose e\/c=n then OT lim dest e b str (.slice (some a) n c) x H else none:=rfl
section
variable {α:Type}
def DH (enc:α->List Value) (G:NE) (B:Nat) (d:Array α):NE:=G.set B (.cells false (d.toList.flatMap enc))
variable [Inhabited α] {enc:α->List Value} {G X:NE} {B e i:Nat} {d:Array α} {p:Option Addr} {lim:Nat}
omit [Inhabited α] in
theorem V3:(DH enc G B d).length=G.length:=by simp [DH]
omit [Inhabited α] in
theorem Nbi (hB:B<G.length):NF (DH enc G B d++X) B=.cells false (d.toList.flatMap enc):=by
 rw [NN (by rw [V3];exact hB)]
 exact Vj hB
omit [Inhabited α] in
theorem Nr7 (hp:p=some ⟨B,0,none⟩) (hB:B<G.length) (he:∀x,(enc x).length=e):Sl (DH enc G B d++X) enc e p d.toList:=by
 subst hp
 refine Sl.lit he ?_ ?_
 ·rw [Nbi hB];rfl
 ·rw [Nbi hB];rfl
theorem N7a {α:Type} [Inhabited α] (d:Array α) (i:Nat):gt d.toList i=d[i]!:=by
 unfold gt
 rw [Na,Array.getElem?_toList,getElem!_def]
 cases d[i]?<;>rfl
theorem YW (hp:p=some ⟨B,0,none⟩) (hB:B<G.length) (he:∀x,(enc x).length=e) (hi:i<d.size):AM.loadCells (DH enc G B d++X) (YI p e i) e=some (enc d[i]!):=by
 rw [(Nr7 hp hB he).loadCells he (by simpa using hi),N7a]
omit [Inhabited α] in
theorem Nl8 (he:∀x,(enc x).length=e) (y:α):∀(l:List α) (i:Nat),i<l.length->QN (l.flatMap enc) (i*e) (enc y)=(l.set i y).flatMap enc:=by
 have key:∀(vs a b c:List Value) ,vs.length=b.length->QN (a++b++c) a.length vs=a++vs++c:=by
  intro vs
  induction vs with
  | nil=>intro a b c h;simp at h;have:b=[]:=List.length_eq_zero_iff.1 h.symm;subst this;rfl
  | cons v vs ih=>
    intro a b c h
    match b,h with
    | x::b,h=>
      rw [Uq]
      have e1:(a++x::b++c).set a.length v=(a++[v])++b++c:=by simp
      rw [e1]
      have:=ih (a++[v]) b c (by simpa using h)
      rw [Nm] at this
      simp only [Nl,Ns,N0] at this
      rw [this];simp
 intro l i hi
 have e1:l.flatMap enc=(l.take i).flatMap enc++enc l[i]++(l.drop (i+1)).flatMap enc:=by
  have e0:l=l.take i++l[i]::l.drop (i+1):=by rw [<-Ou hi,Qc]
  have:=Qg (List.flatMap enc) e0
  rw [P8,Ow] at this
  rw [this,Nn]
 have e2:(l.set i y).flatMap enc=(l.take i).flatMap enc++enc y++(l.drop (i+1)).flatMap enc:=by
  rw [List.set_eq_take_append_cons_drop,Ni hi];simp
 have e3:i*e=((l.take i).flatMap enc).length:=by rw [PS he,Oy,Pz (by omega)]
 rw [e1,e2,e3]
 exact key _ _ _ _ (by rw [he,he])
omit [Inhabited α] in
theorem Yi (hp:p=some ⟨B,0,none⟩) (hB:B<G.length) (hl:lim<=B) (he:∀x,(enc x).length=e) (hi:i<d.size) {y:α}:AM.storeAt lim (DH enc G B d++X) (YI p e i) (enc y)=some (DH enc G B (d.setIfInBounds i y)++X):=by
 subst hp
 have h1:i*e+e<=d.size*e:=by
  have:=O6 e (Qs hi)
  rw [Po] at this;exact this
 simp only [YI,addrOf,Pa,addr_add,Vd,Nbi hB,N0]
 rw [Ni ⟨hl,by rw [he,PS he];simpa using h1⟩,Nl8 he y _ _ (by simpa using hi)]
 congr 1
 rw [P4 _ _ (by rw [V3];exact hB)]
 simp only [DH,List.set_set]
 congr 3
 simp
omit [Inhabited α] in
theorem Wq {n c:Nat} {k:IntKind} {H:NE} (hp:p=some ⟨B,0,none⟩) (hi:i<n):Zv e (.slice p n c) (.int k (i:Int)) H=some (.pointer (some (YI p e i)),H):=by
 subst hp
 exact Xo hi
end
def SB:=And.intro @ne_eq.{1} (And.intro @if_true.{1} (And.intro @if_false.{1} (And.intro @dite_true.{1} (And.intro @dite_false.{1} (And.intro @N43 (And.intro @Nwy (And.intro @Nw1 (And.intro @Nwz (And.intro @Nw0 (And.intro @N07 (And.intro @N08 (And.intro @N3r (And.intro @N3q (And.intro @N3g (And.intro @Nes (And.intro @Nf5 (And.intro @Npv (And.intro @Nux (And.intro @Npu (And.intro @Nuy (And.intro @Nnw (And.intro @Uq (And.intro @N16 (And.intro @Ngh (And.intro @Ngf (And.intro @Nfq (And.intro @Ngg (And.intro @N14 (And.intro @Nwl (And.intro @Nna (And.intro @N17 (And.intro @N8o (And.intro @N8p (And.intro @false_and (And.intro @and_false (And.intro @Nm9 (And.intro @N44 (And.intro @decide_true (And.intro @N30 (And.intro @N3z (And.intro @N6q (And.intro @N22 (And.intro @N6t (And.intro @N6r (And.intro @N9j (And.intro @N25 (And.intro @Nx8 (And.intro @N6s (And.intro @Nx7 (And.intro @Nf2 (And.intro @Nx4 (And.intro @Nx3 (And.intro @Nx2 (And.intro @Nkw (And.intro @Nic (And.intro @Ntf (And.intro @Nte (And.intro @Nk0 (And.intro @Nkz (And.intro @N24 (And.intro @Ntd (And.intro @Ns8 (And.intro @Nkv (And.intro @Ntb (And.intro @Nky (And.intro @Ntc (And.intro @N23 (And.intro @Nth (And.intro @Noo (And.intro @Ns9 (And.intro @Nib (And.intro @Nol (And.intro @Nta (And.intro @Nia (And.intro @Ntg (And.intro @Nx6 (And.intro @Nkx (And.intro @Non (And.intro @Nx1 (And.intro @Nok (And.intro @N6u (And.intro @N29 (And.intro @N6x (And.intro @N6v (And.intro @N9m (And.intro @N3c (And.intro @Nyl (And.intro @N6w (And.intro @Nyk (And.intro @Nf3 (And.intro @Nyh (And.intro @Nyg (And.intro @Nye (And.intro @Nyf (And.intro @Ntl (And.intro @Nyd (And.intro @Ntm (And.intro @Nk6 (And.intro @Nih (And.intro @Ntu (And.intro @Ntt (And.intro @Nla (And.intro @Nk9 (And.intro @N3b (And.intro @Nts (And.intro @Ntn (And.intro @Nk5 (And.intro @Ntq (And.intro @Nk8 (And.intro @Ntr (And.intro @N3a (And.intro @Ntw (And.intro @Noy (And.intro @Nto (And.intro @Nig (And.intro @Nos (And.intro @Ntp (And.intro @Nif (And.intro @Ntv (And.intro @Nyj (And.intro @Nk7 (And.intro @Nox (And.intro @Nyc (And.intro @Nor (And.intro @N3f (And.intro @Nyq (And.intro @Nyo (And.intro @Nym (And.intro @Nyn (And.intro @N3e (And.intro @Nyp (And.intro @Nk1 (And.intro @Nlb (And.intro @Nom (And.intro @Nou (And.intro @Nve (And.intro @Nkp (And.intro @N0h (And.intro @Nuo (And.intro @N31 (And.intro @No9 (And.intro @No8 (And.intro @Npj (And.intro @Nix (And.intro @Npk (And.intro @Ns0 (And.intro @N2w (And.intro @N3k (And.intro @Ny8 (And.intro @N67 (And.intro @Nbj (And.intro @Nhr (And.intro @N15 (And.intro @Nt4 (And.intro @No6 (And.intro @No5 (And.intro @Nlk (And.intro @No4 (And.intro @Mx (And.intro @Zb (And.intro @Nnv (And.intro @Nwg (And.intro @Nwm (And.intro @Nvk (And.intro @N39 (And.intro @N0u (And.intro @Nge (And.intro @Ngd (And.intro @Nfp (And.intro @Nfo (And.intro @Nft (And.intro @Nfr (And.intro @Ncn (And.intro @Nfs (And.intro @Ncm (And.intro @Nvd (And.intro @N0t (And.intro @N7d (And.intro @Noc (And.intro @Nob (And.intro @Nqu (And.intro @List.map_cons.{0,0} (And.intro @List.map_nil.{0,0} (And.intro @Option.map_none.{0,0} (And.intro @Ny3 (And.intro @Nt3 (And.intro @Njw (And.intro @N2z (And.intro @Nxx (And.intro @N2y (And.intro @Ns7 (And.intro @Nwi (And.intro @O9 (And.intro @Nni (And.intro @SN (And.intro @N7b (And.intro @N0m (And.intro @N32 (And.intro @upd_same (And.intro @upd_ne (And.intro @not_false_eq_true (And.intro @Nx0 (And.intro @Option.map_some.{0,0} (And.intro @List.getD_cons_zero.{0} (And.intro @List.getD_cons_succ.{0} (And.intro @decide_false (And.intro @Nx (And.intro @not_true_eq_false (And.intro @and_true (And.intro @Rf (And.intro @NW (And.intro @NV (And.intro @NN (And.intro @Nhz (And.intro @Nkd (And.intro @List.set_cons_zero.{0} (And.intro @List.set_cons_succ.{0} (And.intro @List.append_assoc.{0} (And.intro @List.cons_append.{0} (And.intro @List.nil_append.{0} (And.intro @Vd (And.intro @Nir (And.intro @PU (And.intro @Xo (And.intro @List.length_cons.{0} (And.intro @List.length_nil.{0} (And.intro @addr_add (And.intro @List.drop_zero.{0} (And.intro @List.drop_succ_cons.{0} (And.intro @List.take_succ_cons.{0} (And.intro @List.take_zero.{0} (And.intro @Nd (And.intro @Nat.le_add_right (And.intro @N0 (And.intro @Pw (And.intro @Nn2 (And.intro @Nn3 (And.intro @Nkj (And.intro @Np8 (And.intro @N0j (And.intro @Nut (And.intro @N0k (And.intro @Nvc (And.intro @Nvb (And.intro @Nqc (And.intro @N1u (And.intro @N1t (And.intro @Option.some.injEq.{0} (And.intro @Prod.mk.injEq.{0,0} (And.intro @List.length_append.{0} (And.intro @List.getElem?_cons_zero.{0} (And.intro @List.getElem?_cons_succ.{0} (And.intro @Rh (And.intro @and_self (And.intro @NU (And.intro @Nl0 (And.intro @Nsa (And.intro @Nu6 (And.intro @Q9 (And.intro @Bool.not_false (And.intro @Nat.le_add_right_of_le (And.intro @Nlz (And.intro @Njp (And.intro @Nue (And.intro @Nud (And.intro @Nma (And.intro @YD (And.intro @Ua (And.intro @Ncj (And.intro @Qr (And.intro @Nui (And.intro @N45 (And.intro @Nmp (And.intro @Nu9 (And.intro @Nu8 (And.intro @Nva (And.intro @cells_func (And.intro @Oes (And.intro @N8u (And.intro @Nmb (And.intro @Nuv (And.intro @Nuu (And.intro @Nuw (And.intro @Nle (And.intro @NH (And.intro @Option.isNone_none.{0} (And.intro @Option.isNone_some.{0} (And.intro @N2 (And.intro @NI (And.intro @Nke (And.intro @N9f (And.intro @N9e (And.intro @N9d (And.intro @N9c (And.intro @N9b (And.intro @N9a (And.intro @N6p (And.intro @N6o (And.intro @N6n (And.intro @Nja (And.intro @Nmr (And.intro @Nl1 (And.intro @N26 (And.intro @N3d (And.intro @Nvm (And.intro @Nvs (And.intro @Nx5 (And.intro @Nyi (And.intro @Noj (And.intro @Noq (And.intro @Nk2 (And.intro @Nlc (And.intro @Nga (@UY))))))))))))))))))))))))))))))))))))))))))))))))))))))))))))))))))))))))))))))))))))))))))))))))))))))))))))))))))))))))))))))))))))))))))))))))))))))))))))))))))))))))))))))))))))))))))))))))))))))))))))))))))))))))))))))))))))))))))))))))))))))))))))))))))))))))))))))))))))))))))))))))))))))))))))))))))))))))))
theorem Nup {args:List Value} {t:Nat}:NB args t=args.getD t undef:=id rfl
def FB:=And.intro @upd_same (And.intro @upd_ne (And.intro @ne_eq.{1} (And.intro @not_false_eq_true (And.intro @Nup (And.intro @List.getD_cons_zero.{0} @List.getD_cons_succ.{0})))))
end Go.AM


