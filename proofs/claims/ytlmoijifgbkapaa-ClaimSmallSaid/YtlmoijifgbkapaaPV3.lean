/-
  Joined texts, 3 of 7. A part of the claim that the last text states.
-/
import Derived.Laws.IdiomRangeMap
import Derived.Below
import Derived.Test.YtlmoijifgbkapaaPV2
set_option linter.unusedVariables false
set_option linter.unusedSimpArgs false
set_option linter.defProp false
set_option linter.unusedSectionVars false
set_option maxRecDepth 100000
set_option maxHeartbeats 4000000
namespace Go.AM
def CLe (C C':CallF):Prop:=∀mp lim g as H r,C mp lim g as H=some r→C' mp lim g as H=some r
theorem stepOp_mono {C C':CallF} (h:CLe C C') {lim:Nat} {dest:Option Nat} {o:AOp} {ρ:Operand→Value} {H:zH} {r} (hx:stepOp C lim dest o ρ H=some r):stepOp C' lim dest o ρ H=some r:=by
 by_cases hc:∃mp f args,o=.call mp f args
 ·obtain ⟨mp,f,args,rfl⟩:=hc
  simp only [stepOp] at hx⊢
  split at hx
  ·exact finM_mono (fun p hp=>h _ _ _ _ _ _ hp) hx
  ·cases hx
 ·have hnc:∀mp f args,o≠.call mp f args:=fun mp f args e=>hc ⟨mp,f,args,e⟩
  rw [zSp hnc] at hx⊢
  exact hx
theorem insOp_mono {C C':CallF} (h:CLe C C') {N lim:Nat} {base:Option Nat} {i:zIn} {fr:Nat→Value} {H:zH} {r} (hx:insOp C N lim base i fr H=some r):insOp C' N lim base i fr H=some r:=by
 unfold insOp at hx⊢
 cases hv:insVal C N lim base i fr H with
 | none=>rw [hv] at hx;cases hx
 | some p=>
   have:insVal C' N lim base i fr H=some p:=by
    unfold insVal at hv⊢
    cases hw:wantedA N fr i.guard with
    | none=>rw [hw] at hv;cases hv
    | some b=>
      rw [hw] at hv
      cases b with
      | false=>exact hv
      | true=>
        cases base with
        | none=>exact stepOp_mono h hv
        | some b=>
          simp only at hv⊢
          cases hs:stepOp C lim (i.dest.map (b+·)) i.op (ev fr) (zMh b i.mask H) with
          | none=>rw [hs] at hv;cases hv
          | some q=>rw [hs] at hv;rw [stepOp_mono h hs];exact hv
   rw [hv] at hx
   rw [this]
   exact hx
theorem mapL_back {α β:Type} {f:α→Option β}:∀{l:List α} {r:List β},mapL f l=some r→∀y∈r,∃x∈l,f x=some y
 | [],r,h,y,hy=>by cases h;cases hy
 | x::l,r,h,y,hy=>by
   simp only [mapL] at h
   split at h
   ·rename_i a b ha hb
    cases h
    rcases List.mem_cons.1 hy with rfl | hy
    ·exact ⟨x,by simp,ha⟩
    ·obtain ⟨z,hz,e⟩:=mapL_back hb y hy
     exact ⟨z,by simp [hz],e⟩
   ·cases h
theorem mapL_fwd {α β:Type} {f:α→Option β}:∀{l:List α} {r:List β},mapL f l=some r→∀x∈l,∃y∈r,f x=some y
 | [],r,h,x,hx=>by cases hx
 | z::l,r,h,x,hx=>by
   simp only [mapL] at h
   split at h
   ·rename_i a b ha hb
    cases h
    rcases List.mem_cons.1 hx with rfl | hx
    ·exact ⟨a,by simp,ha⟩
    ·obtain ⟨y,hy,e⟩:=mapL_fwd hb x hx
     exact ⟨y,by simp [hy],e⟩
   ·cases h
theorem bindL_fwd {α β:Type} {f:α→Option (List β)}:∀{l:List α} {r:List β},bindL f l=some r→∀x∈l,∃s,f x=some s∧∀y∈s,y∈r
 | [],r,h,x,hx=>by cases hx
 | z::l,r,h,x,hx=>by
   simp only [bindL] at h
   split at h
   ·rename_i a b ha hb
    cases h
    rcases List.mem_cons.1 hx with rfl | hx
    ·exact ⟨a,ha,fun y hy=>by simp [hy]⟩
    ·obtain ⟨s,hs,e⟩:=bindL_fwd hb x hx
     exact ⟨s,hs,fun y hy=>by simp [e y hy]⟩
   ·cases h
theorem bindL_back {α β:Type} {f:α→Option (List β)}:∀{l:List α} {r:List β},bindL f l=some r→∀y∈r,∃x∈l,∃s,f x=some s∧y∈s
 | [],r,h,y,hy=>by cases h;cases hy
 | z::l,r,h,y,hy=>by
   simp only [bindL] at h
   split at h
   ·rename_i a b ha hb
    cases h
    rcases List.mem_append.1 hy with hy | hy
    ·exact ⟨z,by simp,a,ha,hy⟩
    ·obtain ⟨x,hx,s,e,hs⟩:=bindL_back hb y hy
     exact ⟨x,by simp [hx],s,e,hs⟩
   ·cases h
theorem bindL_mono {α β:Type} {f g:α→Option (List β)}:∀{l:List α} {r:List β},(∀x∈l,∀s,f x=some s→g x=some s)→bindL f l=some r→bindL g l=some r
 | [],r,_,h=>h
 | z::l,r,hfg,h=>by
   simp only [bindL] at h⊢
   split at h
   ·rename_i a b ha hb
    rw [hfg z (by simp) a ha,bindL_mono (fun x hx=>hfg x (by simp [hx])) hb]
    exact h
   ·cases h
theorem one_some {α:Type} {r:Option α} {L:List α} (h:one r=some L):∃x,r=some x∧L=[x]:=by
 cases r with
 | none=>cases h
 | some x=>cases h;exact ⟨x,rfl,rfl⟩
theorem oneOf_some {α:Type} {r:Option (List α)} {x:α} (h:oneOf r=some x):r=some [x]:=by
 unfold oneOf at h
 split at h
 ·cases h;rfl
 ·cases h
def CLeS (C C':CallS):Prop:=∀mp lim g as H r,C mp lim g as H=some r→C' mp lim g as H=some r
theorem CLeS.det {C C':CallS} (h:CLeS C C'):CLe (det C) (det C'):=fun mp lim g as H r hx=>by
 unfold AM.det at hx⊢
 rw [h _ _ _ _ _ _ (oneOf_some hx)]
 rfl
theorem stepS_mono {C C':CallS} (h:CLeS C C') {lim:Nat} {o:AOp} {ρ:Operand→Value} {H:zH} {r} (hx:stepS C lim o ρ H=some r):stepS C' lim o ρ H=some r:=by
 by_cases hc:∃mp f args,o=.call mp f args
 ·obtain ⟨mp,f,args,rfl⟩:=hc
  simp only [stepS] at hx⊢
  split at hx
  ·split at hx
   ·rename_i L hL
    rw [h _ _ _ _ _ _ hL]
    exact hx
   ·cases hx
  ·cases hx
 ·cases o<;>first | exact hx | exact absurd ⟨_,_,_,rfl⟩ hc
theorem stepX_mono {C C':CallS} (h:CLeS C C') {lim:Nat} {i:zIn} {ρ:Operand→Value} {H:zH} {r} (hx:stepX C lim i ρ H=some r):stepX C' lim i ρ H=some r:=by
 obtain ⟨d,g,o,de,m⟩:=i
 unfold stepX at hx⊢
 cases de with
 | none=>exact stepS_mono h hx
 | some k=>exact hx
theorem insS_mono {C C':CallS} (h:CLeS C C') {N lim:Nat} {i:zIn} {fr:Nat→Value} {H:zH} {r} (hx:insS C N lim i fr H=some r):insS C' N lim i fr H=some r:=by
 unfold insS at hx⊢
 cases hw:wantedA N fr i.guard with
 | none=>rw [hw] at hx;cases hx
 | some b=>
   rw [hw] at hx
   cases b with
   | false=>exact hx
   | true=>
     simp only at hx⊢
     split at hx
     ·rename_i L hL
      rw [stepX_mono h hL]
      exact hx
     ·cases hx
theorem callWith_mono {E:Env} {run run':zAf→Nat→List zAi→(Nat→Value)→zH→Option (List (Value×zH))} (h:∀af lim k fr H r,run af lim k fr H=some r→run' af lim k fr H=some r):CLeS (zCw E run) (zCw E run'):=by
 intro mp lim g as H r hx
 unfold zCw at hx⊢
 cases g with
 | inr i=>
   simp only at hx⊢
   split at hx
   ·cases hx
   rename_i hm
   rw [if_neg hm]
   split at hx
   ·split at hx
    ·rename_i hc
     rw [if_pos hc]
     exact h _ _ _ _ _ _ hx
    ·cases hx
   ·cases hx
 | inl g=>
 simp only at hx⊢
 split at hx
 ·exact hx
 split at hx
 ·exact hx
 ·split at hx
  ·cases hx
  ·rename_i af haf
   split at hx
   ·rename_i hp
    rw [if_pos hp]
    split at hx
    ·rename_i v H1 l h1
     rw [h _ _ _ _ _ _ h1]
     exact hx
    ·cases hx
   ·rename_i hp
    rw [if_neg hp]
    split at hx
    ·cases hx
    ·rename_i hm
     rw [if_neg hm]
     exact h _ _ _ _ _ _ hx
theorem aRun_succ (E:Env):∀(n:Nat) (af:zAf) (lim:Nat) (k:List zAi) (fr:Nat→Value) (H:zH) (r),aRun E n af lim k fr H=some r→aRun E (n+1) af lim k fr H=some r
 | 0,_,_,_,_,_,_,h=>by simp [aRun] at h
 | n+1,af,lim,k,fr,H,r,h=>by
   have ih:=aRun_succ E n
   rw [aRun.eq_def] at h⊢
   simp only at h⊢
   cases k with
   | nil=>exact h
   | cons x k=>
     cases x with
     | inBlock id=>exact ih _ _ _ _ _ _ h
     | inLoop c=>exact ih _ _ _ _ _ _ h
     | begin i=>
       simp only at h⊢
       split at h
       ·split at h
        ·rename_i hc
         rw [if_pos hc]
         exact ih _ _ _ _ _ _ h
        ·cases h
       ·cases h
     | round i=>exact h
     | mark i=>exact h
     | ops base l=>
       have hcw:=callWith_mono (E:=E) fun af' lim' k' fr' H' r h=>ih af' lim' k' fr' H' r h
       cases l with
       | nil=>cases base<;>exact ih _ _ _ _ _ _ h
       | cons i l=>
         cases base with
         | none=>
           simp only at h⊢
           split at h
           ·rename_i L hx
            rw [insS_mono hcw hx]
            exact bindL_mono (fun r _ s hs=>ih _ _ _ _ _ _ hs) h
           ·cases h
         | some b=>
           simp only at h⊢
           split at h
           ·rename_i fr' H' hx
            rw [insOp_mono hcw.det hx]
            exact ih _ _ _ _ _ _ h
           ·cases h
     | code c=>
       cases c<;>simp only at h⊢<;> first
        | exact ih _ _ _ _ _ _ h
        | exact h
        | skip
       case cond c a b=>
        cases hc:ev fr c<;>rw [hc] at h<;>first
         | (rename_i b;cases b<;>exact ih _ _ _ _ _ _ h)
         | (cases h;done)
       case exit id=>
        split at h
        ·exact ih _ _ _ _ _ _ h
        ·cases h
       case exitR id=>
        split at h
        ·exact ih _ _ _ _ _ _ h
        ·exact h
       case rangeF f ps a b=>
        split at h
        ·split at h
         ·rename_i L hx
          rw [callWith_mono (fun af' lim' k' fr' H' r h=>ih _ _ _ _ _ _ h) _ _ _ _ _ _ hx]
          simp only
          refine bindL_mono (fun r _ s hs=>?_) h
          split at hs
          ·rename_i x hb
           split at hs
           ·cases hs
           ·rename_i hst
            rw [if_neg hst]
            exact ih _ _ _ _ _ _ hs
          ·cases hs
         ·cases h
        ·cases h
theorem aRun_le (E:Env) {n m:Nat} (h:n≤m) {af:zAf} {lim:Nat} {k:List zAi} {fr:Nat→Value} {H:zH} {r} (hx:aRun E n af lim k fr H=some r):aRun E m af lim k fr H=some r:=by
 induction h with
 | refl=>exact hx
 | step _ ih=>exact aRun_succ E _ _ _ _ _ _ _ ih
theorem aCall_le (E:Env) {n m:Nat} (h:n≤m):CLeS (aCall E n) (aCall E m):=callWith_mono fun _ _ _ _ _ _ hx=>aRun_le E h hx
theorem ops_split (E:Env):∀(l:List zIn) (n:Nat) (af:zAf) (lim b:Nat) (k:List zAi) (fr:Nat→Value) (H:zH) (r),aRun E n af lim (.ops (some b) l::k) fr H=some r→
  ∃m fr' H',m<n∧dOps (det (aCall E (n-1))) af.ntmps lim (some b) l fr H=some (fr',H')∧aRun E m af lim k fr' H'=some r
 | l,0,af,lim,b,k,fr,H,r,h=>by simp [aRun] at h
 | [],n+1,af,lim,b,k,fr,H,r,h=>by
   rw [aRun.eq_def] at h
   exact ⟨n,fr,H,by omega,rfl,h⟩
 | i::l,n+1,af,lim,b,k,fr,H,r,h=>by
   rw [aRun.eq_def] at h
   simp only at h
   split at h
   ·rename_i fr1 H1 hx
    obtain ⟨m,fr',H',h1,h2,h3⟩:=ops_split E l n af lim b k fr1 H1 r h
    refine ⟨m,fr',H',by omega, ?_,h3⟩
    have hx':insOp (det (aCall E (n+1-1))) af.ntmps lim (some b) i fr H=some (fr1,H1):=hx
    simp only [dOps,hx']
    have mono:∀(l:List zIn) (fr:Nat→Value) (H:zH) r,dOps (det (aCall E (n-1))) af.ntmps lim (some b) l fr H=some r→dOps (det (aCall E (n+1-1))) af.ntmps lim (some b) l fr H=some r:=by
     intro l
     induction l with
     | nil=>intro fr H r h;exact h
     | cons i l ih=>
       intro fr H r h
       obtain ⟨f,K,g1,g2⟩:=dOps_cons h
       simp only [dOps,insOp_mono (aCall_le E (show n-1≤n+1-1 by omega)).det g1]
       exact ih _ _ _ g2
    exact mono _ _ _ _ h2
   ·cases h
def dOpsS (C:CallS) (N lim:Nat):List zIn→(Nat→Value)→zH→Option (List ((Nat→Value)×zH))
 | [],fr,H=>some [(fr,H)]
 | i::l,fr,H=>match insS C N lim i fr H with
   | some L=>bindL (fun r=>dOpsS C N lim l r.1 r.2) L
   | none=>none
theorem dOpsS_mono {C C':CallS} (h:CLeS C C') {N lim:Nat}:∀{l:List zIn} {fr:Nat→Value} {H:zH} {r},dOpsS C N lim l fr H=some r→dOpsS C' N lim l fr H=some r
 | [],fr,H,r,hx=>hx
 | i::l,fr,H,r,hx=>by
   simp only [dOpsS] at hx⊢
   split at hx
   ·rename_i L hL
    rw [insS_mono h hL]
    exact bindL_mono (fun x _ s hs=>dOpsS_mono h hs) hx
   ·cases hx
theorem bindL_some {α β:Type} {f:α→Option (List β)}:∀{l:List α},(∀x∈l,∃s,f x=some s)→∃r,bindL f l=some r
 | [],_=>⟨[],rfl⟩
 | x::l,h=>by
   obtain ⟨s,hs⟩:=h x (by simp)
   obtain ⟨r,hr⟩:=bindL_some (f:=f) (l:=l) fun y hy=>h y (by simp [hy])
   exact ⟨s++r,by simp only [bindL,hs,hr]⟩
theorem ops_splitS (E:Env):∀(l:List zIn) (n:Nat) (af:zAf) (lim:Nat) (k:List zAi) (fr:Nat→Value) (H:zH) (R),aRun E n af lim (.ops none l::k) fr H=some R→
  ∃L,dOpsS (aCall E (n-1)) af.ntmps lim l fr H=some L∧∀r∈L,∃m R',m<n∧aRun E m af lim k r.1 r.2=some R'∧∀x∈R',x∈R
 | l,0,af,lim,k,fr,H,R,h=>by simp [aRun] at h
 | [],n+1,af,lim,k,fr,H,R,h=>by
   rw [aRun.eq_def] at h
   refine ⟨[(fr,H)],rfl,fun r hr=>?_⟩
   rw [List.mem_singleton] at hr
   subst hr
   exact ⟨n,R,by omega,h,fun x hx=>hx⟩
 | i::l,n+1,af,lim,k,fr,H,R,h=>by
   rw [aRun.eq_def] at h
   simp only at h
   split at h
   case h_2=>cases h
   rename_i L hL
   have hL':insS (aCall E (n+1-1)) af.ntmps lim i fr H=some L:=hL
   have each:∀r∈L,∃L',dOpsS (aCall E (n+1-1)) af.ntmps lim l r.1 r.2=some L'∧∀q∈L',∃m R',m<n+1∧aRun E m af lim k q.1 q.2=some R'∧∀x∈R',x∈R:=fun r hr=>by
    obtain ⟨s,hs,hsub⟩:=bindL_fwd h r hr
    obtain ⟨L',h1,h2⟩:=ops_splitS E l n af lim k r.1 r.2 s hs
    refine ⟨L',dOpsS_mono (aCall_le E (by omega)) h1,fun q hq=>?_⟩
    obtain ⟨m,R',g1,g2,g3⟩:=h2 q hq
    exact ⟨m,R',by omega,g2,fun x hx=>hsub x (g3 x hx)⟩
   obtain ⟨Q,hQ⟩:=bindL_some (f:=fun r:(Nat→Value)×zH=>dOpsS (aCall E (n+1-1)) af.ntmps lim l r.1 r.2) (l:=L) fun r hr=>by
    obtain ⟨L',h1,_⟩:=each r hr
    exact ⟨L',h1⟩
   refine ⟨Q,by simp only [dOpsS,hL',hQ],fun q hq=>?_⟩
   obtain ⟨r,hr,s,hs,hqs⟩:=bindL_back hQ q hq
   obtain ⟨L',h1,h2⟩:=each r hr
   rw [h1] at hs
   cases hs
   exact h2 q hqs
theorem mapL_ne {α β:Type} {f:α→Option β} {l:List α} {r:List β} (h:mapL f l=some r) (hl:l≠[]):r≠[]:=by
 cases l with
 | nil=>exact absurd rfl hl
 | cons x l=>
   obtain ⟨y,hy,_⟩:=mapL_fwd h x (by simp)
   intro e;rw [e] at hy;cases hy
theorem bindL_ne {α β:Type} {f:α→Option (List β)} {l:List α} {r:List β} (h:bindL f l=some r) (hl:l≠[]) (hf:∀x∈l,∀s,f x=some s→s≠[]):r≠[]:=by
 cases l with
 | nil=>exact absurd rfl hl
 | cons x l=>
   obtain ⟨s,hs,hsub⟩:=bindL_fwd h x (by simp)
   obtain ⟨y,hy⟩:=List.exists_mem_of_ne_nil _ (hf x (by simp) s hs)
   intro e;have:=hsub y hy;rw [e] at this;cases this
theorem insS_ne {C:CallS} (hC:∀mp lim g as H L,C mp lim g as H=some L→L≠[]) {N lim:Nat} {i:zIn} {fr:Nat→Value} {H:zH} {L} (h:insS C N lim i fr H=some L):L≠[]:=by
 have sing:∀{α:Type} {r:Option α} {L:List α},r.map (fun r=>[r])=some L→L≠[]:=fun {α r L} h=>by
  simp only [Option.map_eq_some_iff] at h
  obtain ⟨p,_,rfl⟩:=h
  simp
 unfold insS at h
 split at h
 ·cases h
 ·simp only [Option.map_eq_some_iff] at h;obtain ⟨_,_,rfl⟩:=h;simp
 ·split at h
  case h_2=>cases h
  rename_i L0 hL0
  refine mapL_ne h ?_
  unfold stepX at hL0
  split at hL0
  ·unfold stepS at hL0
   split at hL0
   ·split at hL0
    case h_2=>cases hL0
    split at hL0
    case h_2=>cases hL0
    rename_i L1 hL1
    exact mapL_ne hL0 (hC _ _ _ _ _ _ hL1)
   ·exact sing hL0
  unfold stepI at hL0
  split at hL0
  ·exact sing hL0
  ·unfold aNext at hL0
   repeat' (split at hL0)
   all_goals first
    | (cases hL0;done)
    | (cases hL0;simp;done)
    | exact mapL_ne hL0 (by simp)
  ·exact sing hL0
  ·cases hL0
theorem callWith_ne {E:Env} {run:zAf→Nat→List zAi→(Nat→Value)→zH→Option (List (Value×zH))} (h:∀af lim k fr H L,run af lim k fr H=some L→L≠[]):∀mp lim g as H L,zCw E run mp lim g as H=some L→L≠[]:=by
 intro mp lim g as H L hx
 unfold zCw at hx
 cases g with
 | inr i=>
   simp only at hx
   repeat' (split at hx)
   all_goals first | (cases hx;done) | exact h _ _ _ _ _ _ hx
 | inl g=>
   simp only at hx
   repeat' (split at hx)
   all_goals first | (cases hx;done) | (cases hx;simp;done) | exact h _ _ _ _ _ _ hx
theorem aRun_ne (E:Env):∀(n:Nat) (af:zAf) (lim:Nat) (k:List zAi) (fr:Nat→Value) (H:zH) (L),aRun E n af lim k fr H=some L→L≠[]
 | 0,_,_,_,_,_,_,h=>by simp [aRun] at h
 | n+1,af,lim,k,fr,H,L,h=>by
   have ih:=aRun_ne E n
   have hcw:=callWith_ne (E:=E) ih
   have hone:∀{r:Option (Value×zH)},one r=some L→L≠[]:=fun h=>by obtain ⟨x,_,rfl⟩:=one_some h;simp
   rw [aRun.eq_def] at h
   simp only at h
   cases k with
   | nil=>exact hone h
   | cons x k=>
     cases x with
     | inBlock id=>exact ih _ _ _ _ _ _ h
     | inLoop c=>exact ih _ _ _ _ _ _ h
     | begin i=>
       simp only at h
       split at h
       ·split at h
        ·exact ih _ _ _ _ _ _ h
        ·cases h
       ·cases h
     | round i=>
       simp only at h
       split at h
       ·exact hone h
       ·cases h
     | mark i=>simp at h
     | ops base l=>
       cases l with
       | nil=>cases base<;>exact ih _ _ _ _ _ _ h
       | cons i l=>
         cases base with
         | none=>
           simp only at h
           split at h
           ·rename_i L0 hx
            exact bindL_ne h (insS_ne hcw hx) fun r _ s hs=>ih _ _ _ _ _ _ hs
           ·cases h
         | some b=>
           simp only at h
           split at h
           ·exact ih _ _ _ _ _ _ h
           ·cases h
     | code c=>
       cases c<;>simp only at h<;>first
        | exact ih _ _ _ _ _ _ h
        | exact hone h
        | skip
       case cond c a b=>
        cases hc:ev fr c<;>rw [hc] at h<;>first
         | (rename_i b;cases b<;>exact ih _ _ _ _ _ _ h)
         | (cases h;done)
       case exit id=>
        split at h
        ·exact ih _ _ _ _ _ _ h
        ·cases h
       case retM=>
        split at h
        ·exact hone h
        ·cases h
       case retR=>
        split at h
        ·split at h
         ·exact hone h
         ·cases h
        ·cases h
       case exitR id=>
        split at h
        ·exact ih _ _ _ _ _ _ h
        ·split at h
         ·split at h
          ·exact hone h
          ·cases h
         ·cases h
       case rangeF f ps a b=>
        split at h
        ·split at h
         ·rename_i L0 hx
          refine bindL_ne h (hcw _ _ _ _ _ _ hx) fun r _ s hs=>?_
          split at hs
          ·split at hs
           ·cases hs
           ·exact ih _ _ _ _ _ _ hs
          ·cases hs
         ·cases h
        ·cases h
theorem aCall_ne (E:Env) {n:Nat} {mp:Bool} {lim:Nat} {g:FuncId ⊕ Nat} {as:List Value} {H:zH} {L} (h:aCall E n mp lim g as H=some L):L≠[]:=callWith_ne (aRun_ne E n) _ _ _ _ _ _ h
theorem storeAt_len' {lim:Nat} {H H':zH} {a:Addr} {vs:List Value} (h:storeAt lim H a vs=some H'):H.length≤H'.length:=by rw [storeAt_len h];exact Nat.le_refl _
theorem place_len {dest:Option Nat} {b:Blk} {H:zH}:H.length≤(place dest b H).2.length:=by
 cases dest<;>simp [place]
theorem aOp_len00 {o:AOp} (hL:isL o=false) {lim:Nat} {dest:Option Nat} {ρ:Operand→Value} {H H':zH} {v:Value} (hn:kind o≠.n) (h:aOp lim dest o ρ H=some (v,H')):H.length≤H'.length:=by
 cases hk:kind o with
 | n=>exact absurd hk hn
 | p=>rw [(kind_p hk h).1];exact Nat.le_refl _
 | r=>
   by_cases hc:∃mp f args,o=.call mp f args
   ·obtain ⟨mp,f,args,rfl⟩:=hc;simp [aOp] at h
   ·rw [kind_r hk (fun mp f args e=>hc ⟨mp,f,args,e⟩) h];exact Nat.le_refl _
 | c=>
   cases o<;>simp [kind] at hk
   simp [aOp] at h
 | a=>
   cases o<;>simp [kind] at hk<;>simp only [aOp] at h
   case alloc=>cases h;exact place_len
   case box=>
    split at h
    case isFalse=>cases h
    cases h;exact place_len
   case buildSlice=>
    split at h
    case h_2=>cases h
    cases h;exact place_len
   case makeSlice=>
    split at h
    case h_2=>cases h
    split at h
    case isFalse=>cases h
    cases h;exact place_len
   case growNil=>
    split at h
    case h_2=>cases h
    split at h
    case isFalse=>cases h
    cases h;exact place_len
   case makeMap=>
    split at h
    case h_2=>cases h
    cases h;exact place_len
   case call mp f args=>split at hk<;>cases hk
 | s=>
   have hs:=kind_isS hk
   cases o<;>simp [isS] at hs
   have h':=aOp_unf h
   simp only [unf] at h'
   rw [kind_w_len' (o:=.store _ _ _) rfl rfl h'];exact Nat.le_refl _
 | w=>
   cases hm:makes o with
   | false=>rw [kind_w_len' hk hm h];exact Nat.le_refl _
   | true=>
     cases dest with
     | some d=>rw [kind_w_len hk h];exact Nat.le_refl _
     | none=>
       have ha:∃esz bytes str s x,o=.append esz bytes str s x:=by
        cases o<;>simp [makes,kind] at hm<;>(try (simp [kind] at hk;done))
        case append=>exact ⟨_,_,_,_,_,rfl⟩
        case appendL=>simp [isL] at hL
        all_goals (exfalso;simp [kind] at hk;try (split at hk<;>cases hk))
       obtain ⟨esz,bytes,str,s,x,rfl⟩:=ha
       simp only [aOp] at h
       unfold zAa at h
       split at h
       case h_2=>cases h
       split at h
       ·cases h
       split at h
       ·cases h;exact Nat.le_refl _
       split at h
       ·split at h
        ·cases h;simp [place]
        ·cases h
       ·split at h
        ·cases h
        split at h
        ·split at h
         ·split at h
          ·cases h;simp [place]
          ·cases h
         ·cases h
        ·split at h
         ·split at h
          ·split at h
           ·rename_i h1;cases h;exact storeAt_len' h1
           ·cases h
          ·cases h;simp [place]
         ·cases h
theorem aOp_len0 {o:AOp} {lim:Nat} {dest:Option Nat} {ρ:Operand→Value} {H H':zH} {v:Value} (hn:kind o≠.n) (h:aOp lim dest o ρ H=some (v,H')):H.length≤H'.length:=by
 cases hL:isL o with
 | false=>exact aOp_len00 hL hn h
 | true=>obtain ⟨_,_,h1,h2,_⟩:=isL_unf hL;exact aOp_len00 h1 (by rw [h2];simp) (aOp_unf h)
theorem aOp_len {o:AOp} {lim:Nat} {dest:Option Nat} {ρ:Operand→Value} {H H':zH} {v:Value} (h:aOp lim dest o ρ H=some (v,H')):H.length≤H'.length:=by
 by_cases hn:kind o=.n
 ·cases o<;>(try (simp [kind] at hn;done))
  ·exact aOp_len0 (by simp [unf,kind]) (aOp_unf h)
  ·rename_i mp f as'
   cases mp<;>simp [kind,CM.isPure] at hn
 ·exact aOp_len0 hn h
def CallGrow (C:CallF):Prop:=∀mp lim g as H v H',C mp lim g as H=some (v,H')→lim≤H.length→H.length≤H'.length∧Grow lim H H'
theorem stepOp_grow {C:CallF} (hC:CallGrow C) {lim:Nat} {dest:Option Nat} {o:AOp} {ρ:Operand→Value} {H H':zH} {v:Value} (h:stepOp C lim dest o ρ H=some (v,H')) (hd:∀d,dest=some d→lim≤d) (hl:lim≤H.length) :
  H.length≤H'.length∧Grow lim H H':=by
 by_cases hc:∃mp f args,o=.call mp f args
 ·obtain ⟨mp,f,args,rfl⟩:=hc
  simp only [stepOp] at h
  split at h
  ·obtain ⟨hl1,hl2⟩:=CM.lim_le mp hl
   obtain ⟨g1,g2⟩:=hC _ _ _ _ _ _ _ (finM_some h).1 hl2
   exact ⟨g1,g2.weaken hl1⟩
  ·cases h
 ·have hnc:∀mp f args,o≠.call mp f args:=fun mp f args e=>hc ⟨mp,f,args,e⟩
  rw [zSp hnc] at h
  exact ⟨aOp_len h,aOp_grow h hd hl⟩
theorem unmask_grow {lim base:Nat} {l:List Nat} {H X:zH} (hb0:lim≤base) (h:Grow lim (zMh base l H) X):Grow lim H (zUm base l H X):=⟨fun j b hb ha=>by
 by_cases hj:∃i∈l,base+i=j
 ·have hlt:j<X.length:=by
   have:=(List.getElem?_eq_some_iff.1 hb).1
   rw [zUl] at this;exact this
  rw [unmask_in base H l X hj hlt] at hb
  simp only [Option.some.injEq] at hb
  exact .inl (hget_some hb ha)
 ·have hj':∀i∈l,base+i≠j:=fun i hi e=>hj ⟨i,hi,e⟩
  rw [unmask_out base H l X hj'] at hb
  rcases h j b hb ha with h1 | h1
  ·rw [mask_out base l H hj'] at h1;exact .inl h1
  ·exact .inr h1,fun j hj=>by
 have hj':∀i∈l,base+i≠j:=fun i hi e=>by omega
 rw [unmask_out base H l X hj',h.keep j hj,mask_out base l H hj']⟩
theorem insOp_grow {C:CallF} (hC:CallGrow C) {N lim:Nat} {base:Option Nat} {i:zIn} {fr fr':Nat→Value} {H H':zH} (h:insOp C N lim base i fr H=some (fr',H')) (hb:∀b,base=some b→lim≤b) (hl:lim≤H.length) :
  H.length≤H'.length∧Grow lim H H':=by
 unfold insOp at h
 cases hv:insVal C N lim base i fr H with
 | none=>rw [hv] at h;cases h
 | some p=>
   obtain ⟨v,K⟩:=p
   rw [hv] at h
   simp only [Option.map_eq_some_iff,Prod.mk.injEq] at h
   obtain ⟨f,hf,rfl,rfl⟩:=h
   unfold insVal at hv
   cases hw:wantedA N fr i.guard with
   | none=>rw [hw] at hv;cases hv
   | some b=>
     rw [hw] at hv
     cases b with
     | false=>cases hv;exact ⟨Nat.le_refl _,Grow.refl _ _⟩
     | true=>
       cases base with
       | none=>exact stepOp_grow hC hv (fun d e=>by cases e) hl
       | some b=>
         simp only at hv
         cases hs:stepOp C lim (i.dest.map (b+·)) i.op (ev fr) (zMh b i.mask H) with
         | none=>rw [hs] at hv;cases hv
         | some q=>
           obtain ⟨v1,X⟩:=q
           rw [hs] at hv
           cases hv
           obtain ⟨g1,g2⟩:=stepOp_grow hC hs (fun d e=>by
            simp only [Option.map_eq_some_iff] at e
            obtain ⟨r,_,rfl⟩:=e
            have:=hb b rfl
            omega) (by rw [zMl];exact hl)
           exact ⟨by rw [zUl];rw [zMl] at g1;exact g1,unmask_grow (hb b rfl) g2⟩
theorem setAt_grow {lim i:Nat} {H:zH} {b:Blk} (h:lim≤i) (ho:owned b=true):H.length≤(H.set i b).length∧Grow lim H (H.set i b):=⟨by simp,Grow.set h fun _=>ho⟩
theorem shut_grow {lim:Nat}:∀{l:List Nat} {H H':zH},shut lim l H=some H'→H.length≤H'.length∧Grow lim H H'
 | [],H,H',h=>by cases h;exact ⟨Nat.le_refl _,Grow.refl _ _⟩
 | i::l,H,H',h=>by
   simp only [shut] at h
   split at h
   ·split at h
    ·rename_i hl
     obtain ⟨h1,h2⟩:=shut_grow h
     exact ⟨by simpa using h1,(Grow.set (b:=.dead) hl fun h=>by simp [alive] at h).trans h2⟩
    ·cases h
   ·cases h
theorem endRound_grow {lim i:Nat} {j:Option zAc} {H H':zH} {v:Value} (hl:lim≤i) (h:endRound i j H=some (v,H')):H.length≤H'.length∧Grow lim H H':=by
 unfold endRound at h
 split at h
 ·cases h;exact setAt_grow hl rfl
 ·cases h
def CallGrowS (C:CallS):Prop:=∀mp lim g as H L,C mp lim g as H=some L→lim≤H.length→∀r∈L,H.length≤r.2.length∧Grow lim H r.2
theorem CallGrowS.det {C:CallS} (h:CallGrowS C):CallGrow (AM.det C):=fun mp lim g as H v H' hx hl=>h _ _ _ _ _ _ (oneOf_some hx) hl (v,H') (by simp)
theorem aNext_grow {lim:Nat} {v:Value} {H:zH} {L} (h:aNext lim v H=some L):∀r∈L,H.length≤r.2.length∧Grow lim H r.2:=fun r hr=>by
 unfold aNext at h
 split at h
 case h_2=>cases h
 split at h
 case h_2=>cases h
 split at h
 case isFalse=>cases h
 rename_i hl
 split at h
 case h_2=>cases h
 split at h
 case isFalse=>cases h
 split at h
 ·cases h
  rw [List.mem_singleton] at hr
  subst hr
  exact ⟨Nat.le_refl _,Grow.refl _ _⟩
 ·obtain ⟨j,_,hj⟩:=mapL_back h r hr
  split at hj
  ·split at hj
   ·cases hj;exact ⟨by simp,Grow.set hl fun _=>rfl⟩
   ·cases hj
  ·cases hj
theorem stepS_grow {C:CallS} (hC:CallGrowS C) {lim:Nat} {o:AOp} {ρ:Operand→Value} {H:zH} {L} (h:stepS C lim o ρ H=some L) (hl:lim≤H.length):∀r∈L,H.length≤r.2.length∧Grow lim H r.2:=fun r hr=>by
 by_cases hc:∃mp f args,o=.call mp f args
 ·obtain ⟨mp,f,args,rfl⟩:=hc
  simp only [stepS] at h
  split at h
  case h_2=>cases h
  split at h
  case h_2=>cases h
  rename_i L0 hL0
  obtain ⟨x,hx,e⟩:=mapL_back h r hr
  obtain ⟨hl1,hl2⟩:=CM.lim_le mp hl
  have:=(finM_some e).1
  cases this
  obtain ⟨g1,g2⟩:=hC _ _ _ _ _ _ hL0 hl2 r hx
  exact ⟨g1,g2.weaken hl1⟩
 ·have plain:∀{v:Value} {H':zH},(aOp lim none o ρ H).map (fun r=>[r])=some L→r=(v,H')→H.length≤H'.length∧Grow lim H H':=fun {v H'} h e=>by
   simp only [Option.map_eq_some_iff] at h
   obtain ⟨p,hp,rfl⟩:=h
   rw [List.mem_singleton] at hr
   subst hr
   cases e
   exact ⟨aOp_len hp,aOp_grow hp (fun d e=>by cases e) hl⟩
  cases o<;>first
   | exact absurd ⟨_,_,_,rfl⟩ hc
   | exact plain h rfl
theorem stepX_grow {C:CallS} (hC:CallGrowS C) {lim:Nat} {i:zIn} {ρ:Operand→Value} {H:zH} {L} (h:stepX C lim i ρ H=some L) (hl:lim≤H.length):∀r∈L,H.length≤r.2.length∧Grow lim H r.2:=fun r hr=>by
 unfold stepX at h
 split at h
 ·exact stepS_grow hC h hl r hr
 unfold stepI at h
 split at h
 ·simp only [Option.map_eq_some_iff] at h
  obtain ⟨p,hp,rfl⟩:=h
  rw [List.mem_singleton] at hr
  subst hr
  unfold aRangeMap at hp
  split at hp
  ·cases hp;exact ⟨by simp,Grow.app hl fun b hb _=>by simp at hb;subst hb;rfl⟩
  ·cases hp
 ·exact aNext_grow h r hr
 ·simp only [Option.map_eq_some_iff] at h
  obtain ⟨p,hp,rfl⟩:=h
  rw [List.mem_singleton] at hr
  subst hr
  unfold aEntry at hp
  repeat' (split at hp)
  all_goals first
   | (cases hp;done)
   | (cases hp;exact ⟨Nat.le_refl _,Grow.refl _ _⟩)
 ·cases h
theorem insS_grow {C:CallS} (hC:CallGrowS C) {N lim:Nat} {i:zIn} {fr:Nat→Value} {H:zH} {L} (h:insS C N lim i fr H=some L) (hl:lim≤H.length):∀r∈L,H.length≤r.2.length∧Grow lim H r.2:=fun r hr=>by
 unfold insS at h
 cases hw:wantedA N fr i.guard with
 | none=>rw [hw] at h;cases h
 | some b=>
   rw [hw] at h
   cases b with
   | false=>
     simp only [Option.map_eq_some_iff] at h
     obtain ⟨f,_,rfl⟩:=h
     rw [List.mem_singleton] at hr
     subst hr
     exact ⟨Nat.le_refl _,Grow.refl _ _⟩
   | true=>
     simp only at h
     split at h
     case h_2=>cases h
     rename_i L0 hL0
     obtain ⟨x,hx,e⟩:=mapL_back h r hr
     simp only [Option.map_eq_some_iff] at e
     obtain ⟨f,_,rfl⟩:=e
     exact stepX_grow hC hL0 hl x hx
theorem grow_news {lim:Nat} {H:zH} {X:List (List Value)} (hl:lim≤H.length):Grow lim H (H++news X):=⟨fun j b hb ha=>by
 rcases Nat.lt_or_ge j H.length with h | h
 ·rw [List.getElem?_append_left h] at hb;exact .inl hb
 ·rw [List.getElem?_append_right h] at hb
  unfold news at hb
  rw [List.getElem?_map] at hb
  simp only [Option.map_eq_some_iff] at hb
  obtain ⟨c,_,rfl⟩:=hb
  exact .inr ⟨rfl,by omega⟩,fun j hj=>by rw [List.getElem?_append_left (by omega)]⟩
theorem upd_grow {lim:Nat} {H:zH} {u:Option (Nat×List Value)} (h:updOk lim H u=true):(updE H u).length=H.length∧Grow lim H (updE H u):=by
 cases u with
 | none=>exact ⟨rfl,Grow.refl _ _⟩
 | some x=>
   obtain ⟨R,c⟩:=x
   simp only [updOk,Bool.and_eq_true,decide_eq_true_eq] at h
   exact ⟨by simp [updE],Grow.set h.1 fun _=>rfl⟩
theorem callWith_grow {E:Env} {run:zAf→Nat→List zAi→(Nat→Value)→zH→Option (List (Value×zH))}
  (h:∀af lim k fr H L,(∀x∈k,∀b l,x≠.ops (some b) l)→run af lim k fr H=some L→lim≤H.length→∀r∈L,H.length≤r.2.length∧Grow lim H r.2):CallGrowS (zCw E run):=by
 intro mp lim g as H L hx hl r hr
 unfold zCw at hx
 have keep:∀{v:Value},some [(v,H)]=some L→H.length≤r.2.length∧Grow lim H r.2:=fun {v} e=>by
  cases e
  rw [List.mem_singleton] at hr
  subst hr
  exact ⟨Nat.le_refl _,Grow.refl _ _⟩
 cases g with
 | inr i=>
   simp only at hx
   split at hx
   ·cases hx
   split at hx
   ·split at hx
    ·exact h _ _ _ _ _ _ (fun x hx b l e=>by simp at hx;rcases hx with rfl | rfl | rfl | rfl<;>cases e) hx hl r hr
    ·cases hx
   ·cases hx
 | inl g=>
 simp only at hx
 split at hx
 ·split at hx
  ·exact keep hx
  ·cases hx
 split at hx
 ·split at hx
  ·cases hx
  ·rename_i hc
   cases hx
   rw [List.mem_singleton] at hr
   subst hr
   simp only [Bool.or_eq_true,Bool.not_eq_true',not_or,Bool.not_eq_false] at hc
   have hu:=upd_grow hc.2
   exact ⟨by simp [effH,hu.1],hu.2.trans (grow_news (by omega))⟩
 ·split at hx
  ·cases hx
  ·split at hx
   ·split at hx
    ·split at hx
     ·split at hx
      ·exact keep hx
      ·cases hx
     ·cases hx
    ·cases hx
   ·split at hx
    ·cases hx
    ·exact h _ _ _ _ _ _ (fun x hx b l e=>by simp at hx;subst hx;cases e) hx hl r hr
theorem aExit_ops {id:Nat}:∀{k k':List zAi} {Pr:zAi→Prop},aExit id k=some k'→(∀x∈k,Pr x)→∀x∈k',Pr x
 | [],_,_,h,_=>by simp [aExit] at h
 | y::k,k',Pr,h,hp=>by
   have hk:∀x∈k,Pr x:=fun x hx=>hp x (List.mem_cons_of_mem _ hx)
   cases y<;>simp only [aExit] at h
   case inBlock id'=>
    split at h
    ·cases h;exact hk
    ·exact aExit_ops h hk
   all_goals exact aExit_ops h hk
theorem aRun_grow (E:Env):∀(n:Nat) (af:zAf) (lim:Nat) (k:List zAi) (fr:Nat→Value) (H:zH) (L:List (Value×zH)),(∀x∈k,∀b l,x=.ops (some b) l→lim≤b)→aRun E n af lim k fr H=some L→lim≤H.length→
  ∀r∈L,H.length≤r.2.length∧Grow lim H r.2
 | 0,_,_,_,_,_,_,_,h,_,_,_=>by simp [aRun] at h
 | n+1,af,lim,k,fr,H,L,hk,h,hl,r,hr=>by
   have ih:=aRun_grow E n
   rw [aRun.eq_def] at h
   simp only at h
   have res:one ((result fr H af.results).map (·,H))=some L→H.length≤r.2.length∧Grow lim H r.2:=fun h=>by
    obtain ⟨x,h',rfl⟩:=one_some h
    rw [List.mem_singleton] at hr
    subst hr
    simp only [Option.map_eq_some_iff] at h'
    obtain ⟨_,_,rfl⟩:=h'
    exact ⟨Nat.le_refl _,Grow.refl _ _⟩
   have endR:∀{i:Nat} {j:Option zAc},lim≤i→one (endRound i j H)=some L→H.length≤r.2.length∧Grow lim H r.2:=fun {i j} hli h=>by
    obtain ⟨x,h',rfl⟩:=one_some h
    rw [List.mem_singleton] at hr
    subst hr
    exact endRound_grow hli h'
   have hcw:CallGrowS (zCw E (aRun E n)):=callWith_grow fun af' lim' k' fr' H0 L0 hk0 h0 hl0=>ih _ _ _ _ _ _ (fun x hx b l e=>absurd e (hk0 x hx b l)) h0 hl0
   cases k with
   | nil=>exact res h
   | cons x k=>
     have hk':∀x∈k,∀b l,x=.ops (some b) l→lim≤b:=fun x hx=>hk x (List.mem_cons_of_mem _ hx)
     have add:∀{c:zAi},(∀b l,c≠.ops (some b) l)→∀x∈c::k,∀b l,x=.ops (some b) l→lim≤b:=fun {c} hc x hx b l e=>by
      rcases List.mem_cons.1 hx with h | h
      ·subst h;exact absurd e (hc b l)
      ·exact hk' x h b l e
     cases x with
     | inBlock id=>exact ih _ _ _ _ _ _ hk' h hl r hr
     | begin i=>
       simp only at h
       split at h
       ·split at h
        ·rename_i hc
         obtain ⟨g1,g2⟩:=setAt_grow (H:=H) (b:=.loop { ‹LoopB› with st:=1 }) hc.2 rfl
         obtain ⟨g3,g4⟩:=ih _ _ _ _ _ _ hk' h (by simpa using hl) r hr
         exact ⟨by simpa using g3,g2.trans g4⟩
        ·cases h
       ·cases h
     | round i=>
       simp only at h
       split at h
       ·exact endR ‹_› h
       ·cases h
     | mark i=>simp at h
     | inLoop c=>
       refine ih _ _ _ _ _ _ (fun x hx b l e=>?_) h hl r hr
       rcases List.mem_cons.1 hx with h | h
       ·subst h;cases e
       ·exact add (c:=.inLoop c) (by simp) x h b l e
     | ops base l=>
       cases l with
       | nil=>cases base<;>exact ih _ _ _ _ _ _ hk' h hl r hr
       | cons i l=>
         cases base with
         | none=>
           simp only at h
           split at h
           ·rename_i L0 hx
            obtain ⟨x,hx0,s,hs,hrs⟩:=bindL_back h r hr
            obtain ⟨g1,g2⟩:=insS_grow hcw hx hl x hx0
            obtain ⟨g3,g4⟩:=ih _ _ _ _ _ _ (add (c:=.ops none l) (by simp)) hs (by omega) r hrs
            exact ⟨by omega,g2.trans g4⟩
           ·cases h
         | some b0=>
           simp only at h
           split at h
           ·rename_i fr' H1 hx
            obtain ⟨g1,g2⟩:=insOp_grow hcw.det hx (fun b e=>hk _ List.mem_cons_self b (i::l) (by cases e;rfl)) hl
            obtain ⟨g3,g4⟩:=ih _ _ _ _ _ _ (fun x hx b l' e=>by
             rcases List.mem_cons.1 hx with h | h
             ·subst h;cases e;exact hk _ List.mem_cons_self b0 (i::l) rfl
             ·exact hk' x h b l' e) h (by omega) r hr
            exact ⟨by omega,g2.trans g4⟩
           ·cases h
     | code c=>
       cases c<;>simp only at h
       case skip=>exact ih _ _ _ _ _ _ hk' h hl r hr
       case ops l=>exact ih _ _ _ _ _ _ (add (c:=.ops none l) (by simp)) h hl r hr
       case drawn m l=>
        obtain ⟨g1,g2⟩:=ih _ _ _ _ _ _ (fun x hx b l' e=>by
         rcases List.mem_cons.1 hx with h | h
         ·subst h;cases e;exact hl
         ·exact hk' x h b l' e) h (by simp;omega) r hr
        exact ⟨by simp at g1;omega,(Grow.dead hl m).trans g2⟩
       case seq a b=>
        refine ih _ _ _ _ _ _ (fun x hx b' l e=>?_) h hl r hr
        rcases List.mem_cons.1 hx with h | h
        ·subst h;cases e
        ·exact add (c:=.code b) (by simp) x h b' l e
       case cond c a b=>
        cases hc:ev fr c<;>rw [hc] at h<;>first
         | (rename_i t;cases t<;>exact ih _ _ _ _ _ _ (add (by simp)) h hl r hr)
         | (cases h;done)
       case block id b=>
        refine ih _ _ _ _ _ _ (fun x hx b' l e=>?_) h hl r hr
        rcases List.mem_cons.1 hx with h | h
        ·subst h;cases e
        ·exact add (c:=.inBlock id) (by simp) x h b' l e
       case loop b=>
        refine ih _ _ _ _ _ _ (fun x hx b' l e=>?_) h hl r hr
        rcases List.mem_cons.1 hx with h | h
        ·subst h;cases e
        ·exact add (c:=.inLoop b) (by simp) x h b' l e
       case exit id=>
        split at h
        ·rename_i k' hke
         exact ih _ _ _ _ _ _ (aExit_ops hke hk') h hl r hr
        ·cases h
       case ret=>exact res h
       case retM=>
        split at h
        ·rename_i H1 hsh
         obtain ⟨g1,g2⟩:=shut_grow (lim:=lim) hsh
         obtain ⟨x,h',rfl⟩:=one_some h
         rw [List.mem_singleton] at hr
         subst hr
         simp only [Option.map_eq_some_iff] at h'
         obtain ⟨_,_,rfl⟩:=h'
         exact ⟨g1,g2⟩
        ·cases h
       case retR=>
        split at h
        ·split at h
         ·exact endR ‹_› h
         ·cases h
        ·cases h
       case exitR id=>
        split at h
        ·rename_i k' hke
         exact ih _ _ _ _ _ _ (aExit_ops hke hk') h hl r hr
        ·split at h
         ·split at h
          ·exact endR ‹_› h
          ·cases h
         ·cases h
       case rangeF f ps a b=>
        split at h
        ·split at h
         ·rename_i L0 hx
          obtain ⟨q,hq,s,hs,hrs⟩:=bindL_back h r hr
          obtain ⟨g1,g2⟩:=hcw _ _ _ _ _ _ hx (by simp;omega) q hq
          simp at g1
          split at hs
          ·rename_i x hb
           split at hs
           ·cases hs
           ·obtain ⟨g3,g4⟩:=ih _ _ _ _ _ _ (fun y hy b l e=>by
             rcases List.mem_append.1 hy with hy | hy
             ·cases hp:x.pend<;>rw [hp] at hy<;>simp at hy
              subst hy;cases e
             ·rcases List.mem_append.1 hy with hy | hy
              ·exact hk' y hy b l e
              ·simp at hy;subst hy;cases e) hs (by simp;omega) r hrs
            simp at g3
            exact ⟨by omega,(Grow.app hl fun b hb _=>by simp at hb;rcases hb with rfl | rfl<;>rfl).trans (g2.trans ((Grow.set (b:=.dead) (by omega) fun h=>by simp [alive] at h).trans g4))⟩
          ·cases hs
         ·cases h
        ·cases h
open Go.RowKit
structure CallOkS (Pg:Prg) (C:CallS):Prop where
 fn:∀mp lim g as H L,C mp lim (.inl g) as H=some L→∃fn,Pg.P.funcs[g]? = some fn∧fn.body.isSome=true∧(fn.name == "runtime.NumGoroutine")=false
 calls:∀mp lim g as H L,C mp lim (.inl g) as H=some L→lim≤H.length→∀W σ w as',Inv Pg W lim σ H w→zLr σ as as'→Calls Pg.P g as'.toArray w fun e w'=>∃r∈L,CallPost Pg W lim σ H r.1 r.2 w e w'
 rounds:∀mp lim i as H L,C mp lim (.inr i) as H=some L→lim≤H.length→∀W σ w as' L0,Inv Pg W lim σ H w→zLr σ as as'→σ i=some L0→
  ∃r,w.heap[L0.blk]? = some (.loop r)∧as'.toArray.size=r.params.size∧RoundIn Fence.wide 0 Pg.P L0.blk r.fn (roundTmps r as'.toArray) r.assign r.body w fun e w'=>∃x∈L,CallPost Pg W lim σ H x.1 x.2 w e w'
 grow:CallGrowS C
 pure:∀lim g as H L,C true lim g as H=some L→∀r∈L,r.2=H
theorem CallOkS.det {Pg:Prg} {C:CallS} (h:CallOkS Pg C):CallOk Pg (AM.det C) where
 pure lim g as H v H' hx:=h.pure _ _ _ _ _ (oneOf_some hx) (v,H') (by simp)
 len mp lim g as H v H' hx hl:=(h.grow _ _ _ _ _ _ (oneOf_some hx) hl (v,H') (by simp)).1
 keep mp lim g as H v H' hx hl:=(h.grow _ _ _ _ _ _ (oneOf_some hx) hl (v,H') (by simp)).2.keep
 fn mp lim g as H v H' hx:=h.fn _ _ _ _ _ _ (oneOf_some hx)
 calls mp lim g as H v H' hx hl W σ w as' hinv ha:=(h.calls _ _ _ _ _ _ (oneOf_some hx) hl W σ w as' hinv ha).mono fun e w' hp=>by
  obtain ⟨r,hr,hp⟩:=hp
  rw [List.mem_singleton] at hr
  subst hr
  exact hp
 rounds mp lim i as H v H' hx hl W σ w as' L hinv ha hL:=by
  obtain ⟨r,h1,h2,h3⟩:=h.rounds _ _ _ _ _ _ (oneOf_some hx) hl W σ w as' L hinv ha hL
  exact ⟨r,h1,h2,h3.mono fun e w' hp=>by
   obtain ⟨x,hx,hp⟩:=hp
   rw [List.mem_singleton] at hx
   subst hx
   exact hp⟩
 grow mp lim g as H v H' hx hl:=(h.grow _ _ _ _ _ _ (oneOf_some hx) hl (v,H') (by simp)).2
theorem callOk_none (Pg:Prg):CallOk Pg fun _ _ _ _ _=>none where
 pure:=fun _ _ _ _ _ _ h=>by cases h
 len:=fun _ _ _ _ _ _ _ h=>by cases h
 keep:=fun _ _ _ _ _ _ _ h=>by cases h
 fn:=fun _ _ _ _ _ _ _ h=>by cases h
 calls:=fun _ _ _ _ _ _ _ h=>by cases h
 rounds:=fun _ _ _ _ _ _ _ h=>by cases h
 grow:=fun _ _ _ _ _ _ _ h=>by cases h
section
variable {P:Program} {pf pureF:FuncId→Bool} {C:CallS} {W:Nat→Prop} {lim:Nat} {σ:Sig} {H H':zH} {w:World} {ds:List Deferred} {ro:Option Nat}
theorem next_run {r bm n:Nat} {seen:List Nat} {ty:TypeId} {ents:Array MapEntry} (hr:w.heap[r]? = some (.mapIter (some bm) n seen.toArray n)) (hb:w.heap[bm]? = some (.map ents n)) (hst:∀(j:Nat) e,ents[j]? = some e→e.born=j) (hsz:ents.size=n) :
  (unmet n seen=[]∧(Instr.next (.pointer (some ⟨r,0,none⟩)) false ty).run P w=.ok (.tuple #[.bool false]) w)∨
  ∃j∈unmet n seen,∃e,ents[j]? = some e∧∃w1,(w1=w∨w1=w.drew)∧(Instr.next (.pointer (some ⟨r,0,none⟩)) false ty).run P w=.ok (.tuple #[.bool true,e.key,e.val]) (w1.putObj r (.mapIter (some bm) n (seen++[j]).toArray n)):=by
 have hold:∀x∈ents.toList,x.born<n:=fun x hx=>by
  obtain ⟨j,hj,rfl⟩:=List.mem_iff_getElem.1 hx
  have:=hst j ents[j] (by simp)
  simp at hj
  simp
  omega
 simp only [Instr.next,getObj,Sem.run_bind,Sem.run,hr,hb,Result.andThen,next_test_false seen.toArray ents n n hold (Nat.le_refl _),Bool.false_eq_true,if_false]
 have hmem:∀x∈(Array.filter (fun e=>!seen.toArray.contains e.born) ents).toList,x.born<n:=fun x hx=>hold x (by simp at hx⊢;exact hx.1)
 have hL1:∀x∈(Array.filter (fun e=>!seen.toArray.contains e.born) ents).toList,x.born∈unmet n seen∧ents[x.born]? = some x:=fun x hx=>by
  simp at hx
  obtain ⟨j,hj,rfl⟩:=Array.mem_iff_getElem.1 hx.1
  have hb:=hst j ents[j] (by simp)
  rw [hb]
  refine ⟨?_,by simp⟩
  unfold unmet
  rw [List.mem_filter,List.mem_range]
  exact ⟨by omega,by have:=hx.2;rw [hb] at this;simpa using this⟩
 have hL2:unmet n seen≠[]→(Array.filter (fun e=>!seen.toArray.contains e.born) ents)≠#[]:=fun h e=>by
  obtain ⟨j,hj⟩:=List.exists_mem_of_ne_nil _ h
  unfold unmet at hj
  rw [List.mem_filter,List.mem_range] at hj
  have hjl:j<ents.size:=by omega
  have hm:ents[j]∈Array.filter (fun e=>!seen.toArray.contains e.born) ents:=by
   rw [Array.mem_filter]
   refine ⟨Array.getElem_mem hjl, ?_⟩
   rw [hst j ents[j] (by simp)]
   simpa using hj.2
  rw [e] at hm
  simp at hm
 generalize Array.filter (fun e=>!seen.toArray.contains e.born) ents=L at hmem hL1 hL2⊢
 have e1:L.filter (fun x=>decide (x.born<n))=L:=Array.filter_eq_self.2 (fun x hx=>by simpa using hmem x (by simpa using hx))
 have e2:L.filter (fun x=>decide (x.born≥n))=#[]:=by
  rw [Array.filter_eq_empty_iff]
  intro x hx
  have:=hmem x (by simpa using hx)
  simp
  omega
 simp only [e1,e2,Array.append_empty]
 by_cases h0:L.size=0
 ·left
  have:L=#[]:=Array.eq_empty_of_size_eq_zero h0
  subst this
  refine ⟨Classical.byContradiction fun h=>hL2 h rfl, ?_⟩
  simp [choose,Sem.run,Question.forced]
 ·right
  have hne:L.isEmpty=false:=by simp [Array.isEmpty,h0]
  simp only [hne,Bool.false_eq_true,if_false,Array.empty_append,Array.size_map]
  have hch:∃(j:Nat) (w1:World),j<L.size∧(w1=w∨w1=w.drew)∧(choose (Question.mapNext L.size)).run P w=.ok j w1:=by
   by_cases hf:L.size≤1
   ·exact ⟨0,w,by omega,.inl rfl,by simp [choose,Sem.run,Question.forced,hf]⟩
   ·exact ⟨_,w.drew,Nat.mod_lt _ (by omega),.inr rfl,by
     simp only [choose,Sem.run,Question.forced,decide_eq_true_eq,hf,if_false,Question.cut]
     rfl⟩
  obtain ⟨j,w1,hj,hw1,hrun⟩:=hch
  obtain ⟨g1,g2⟩:=hL1 L[j] (by simp)
  refine ⟨_,g1,L[j],g2,w1,hw1, ?_⟩
  have hr1:w1.heap[r]? = some (.mapIter (some bm) n seen.toArray n):=by
   rcases hw1 with rfl | rfl<;>exact hr
  simp only [hrun,Array.getElem?_map,Array.getElem?_eq_getElem hj,Option.map_some,Sem.run_bind,setObj,Sem.run,hr1,Result.andThen]
  simp [World.putObj]
theorem keyFlat_rel {v:Value} (h:keyFlat v=true):zVr σ v v:=by
 cases v<;>simp only [keyFlat] at h<;>first
  | (cases h;done)
  | exact .atom rfl
  | skip
 rename_i cs
 rw [List.all_eq_true] at h
 refine zVr.agg_iff.2 ⟨zLr.refl_of fun x hx=>?_,fun y hy=>?_⟩
 ·have:=h x hx
  cases x<;>first | exact .atom rfl | (simp at this;done)
 ·have:=h y hy
  cases y<;>first | rfl | (simp at this;done)
theorem Inv.push {Pg:Prg} (h:Inv Pg W lim σ H w) {b:Blk} {o:Obj} (ho:owned b=true) (hb:BlkRel Pg (σ.put H.length ⟨w.heap.size,0,0⟩) (w.alloc o) ⟨w.heap.size,0,0⟩ b):Inv Pg W lim (σ.put H.length ⟨w.heap.size,0,0⟩) (H++[b]) (w.alloc o)∧∀j,(σ.put H.length ⟨w.heap.size,0,0⟩) j≠σ j→none=some j∨H.length≤j:=by
 have hw:Inv Pg W lim σ H (w.alloc o):=h.world (by simp) fun b hb=>by rw [heap_push,Array.getElem?_push];rw [if_neg (by omega)]
 obtain ⟨g1,g2,g3,g4,g5,g6,g7⟩:=place_get (dest:=none) (b:=b) (H:=H) (show place none b H=(H.length,H++[b]) from rfl) (fun d e=>by cases e)
 refine ⟨hw.adopt g1 g2 g4 (h.dom _ (Nat.le_refl _)) hb ho (h.fresh _ (Nat.le_refl _)) fun j bj Lj hji hbj ha hLj e=>?_,fun j hj=>.inr ?_⟩
 ·obtain ⟨L',h1,h2⟩:=h.blk j bj hbj ha
  rw [hLj] at h1;cases h1
  have:=h2.lt ha
  simp at e
  omega
 ·apply Classical.byContradiction
  intro hc
  refine hj ?_
  simp only [Sig.put]
  rw [if_neg (by omega)]
theorem stp_put {r:Nat} {o:Obj} (hW:W r):Stp W w (w.putObj r o):=
 ⟨rfl,rfl,⟨rfl,Nat.le_refl _⟩,by simp,fun b hb=>World.putObj_heap_other fun e=>hb (e▸hW)⟩
theorem Inv.putLoop (h:Inv (Prg.mk P pf) W lim σ H w) {i:Nat} {b b':Blk} {L:Loc} (hb:zG H i=b) (ho:owned b=true) (hL:σ i=some L) (hl:lim≤i) {o:Obj} (hb':BlkRel (Prg.mk P pf) σ (w.putObj L.blk o) L b') (hob:alive b'=true→owned b'=true) :
  Inv (Prg.mk P pf) W lim σ (H.set i b') (w.putObj L.blk o)∧Stp W w (w.putObj L.blk o):=by
 have hi:=hget_some hb (zAo ho)
 exact ⟨h.rewrite hi ho hl hL (by simp) (fun k hk=>World.putObj_heap_other hk) hb' hob,stp_put (h.wr i b L hi ho hl hL)⟩
theorem stepS_wp (hC:CallOkS (Prg.mk P pf) C) {o:Oper} {ao:AOp} (htr:trOp P pureF false o=some ao) (hinv:Inv (Prg.mk P pf) W lim σ H w) (hl:lim≤H.length)
  {ρ:Operand→Value} {a:Act} (hρ:∀x,zOo x=true→zVr σ (ρ x) (a.eval x)) {L} (hx:stepS C lim ao ρ H=some L)
  {K:Act→World→Prop} {Q:Exit→Act→World→Prop} (hK:∀r∈L,∀v' w' σ',Next' (Prg.mk P pf) W lim σ none H w r.1 r.2 v' w' σ'→K (a.put o.dst v') w'):o.wpIn (WF ro) 0 P a w K Q:=by
 by_cases hcall:∃mp f args,ao=.call mp f args
 ·obtain ⟨mp,f,args,rfl⟩:=hcall
  have hop:∃c,o.op=.call c∧c.callee=.value f∧args=c.args.toList∧∀x∈o.op.operands,zOo x=true:=by
   obtain ⟨dst,op,type,pos,after,guard⟩:=o
   unfold trOp at htr
   split at htr
   ·cases htr
   rename_i hok
   simp only [Bool.not_eq_true,Bool.not_eq_false'] at hok
   have hoks:∀x∈op.operands,zOo x=true:=fun x hx=>okOps (o:=⟨dst,op,type,pos,after,guard⟩) (by simpa using hok) hx
   cases op<;>(try simp only at htr)<;>try (cases htr;done)
   case call c=>
    refine ⟨c,rfl, ?_⟩
    cases hc:c.callee with
    | value f'=>rw [hc] at htr;simp at htr;obtain ⟨_,rfl,rfl⟩:=htr;exact ⟨rfl,rfl,hoks⟩
    | invoke r m=>rw [hc] at htr;simp at htr
    | builtin b=>
      rw [hc] at htr
      exfalso
      cases b<;>(try simp only at htr)<;>(try (cases htr;done))<;>(repeat' (split at htr))<;>first
       | (cases htr;done)
       | (simp only [Option.map_eq_some_iff] at htr;obtain ⟨_,_,htr⟩:=htr;cases htr;done)
       | (exfalso;simp at htr;done)
       | (obtain ⟨_,_,htr⟩:=zOb htr;obtain ⟨_,_,htr⟩:=zOb htr;obtain ⟨_,_,htr⟩:=zOb htr;split at htr<;>cases htr;done)
   all_goals exfalso
   all_goals (repeat' (first | (obtain ⟨_,_,htr⟩:=zOb htr) | split at htr))
   all_goals first
    | (cases htr;done)
    | (simp only [Option.map_eq_some_iff] at htr;obtain ⟨_,_,htr⟩:=htr;cases htr;done)
    | contradiction
  obtain ⟨c,ho,hcal,rfl,hoks⟩:=hop
  simp only [stepS] at hx
  split at hx
  case h_2=>cases hx
  rename_i g as hcl
  split at hx
  case h_2=>cases hx
  rename_i L0 hL0
  have hto:∀r∈L0,r∈L:=fun r hr=>by
   obtain ⟨y,hy,e⟩:=mapL_fwd hx r hr
   have:=(finM_some e).1
   cases this
   exact hy
  obtain ⟨hl1,hl2⟩:=CM.lim_le mp hl
  have hinv':=hinv.up hl1
  generalize mp.lim lim H=lim' at hL0 hl1 hl2 hinv'
  generalize mp.isPure=mp' at hL0
  have hsem:∀{ρ'},o.semAt (WF ro).round ρ'=execOp ρ' o:=fun {ρ'}=>Oper.semAt_eq _ _ _ fun c' e=>by rw [ho] at e;cases e
  refine ⟨fun _ _=>trivial, ?_⟩
  rw [hsem]
  have hfo:zOo f=true:=hoks f (by rw [ho];simp [Op.operands,Call.operands,hcal])
  have hfv:=hρ f hfo
  have hargs:zLr σ (c.args.toList.map ρ) (c.args.map a.eval).toList:=by
   have:(c.args.map a.eval).toList=c.args.toList.map a.eval:=by simp
   rw [this]
   exact lrel_map_rho fun x hx=>hρ x (hoks x (by rw [ho];simp only [Op.operands,Call.operands,hcal];simp at hx⊢;exact .inr hx))
  have fin:∀{en:Ending} {w':World} {K':Value→World→Prop},(∃r∈L0,CallPost (Prg.mk P pf) W lim' σ H r.1 r.2 w en w')→(∀v',en=.returned v'→(∃r∈L,∃σ',Next' (Prg.mk P pf) W lim σ none H w r.1 r.2 v' w' σ')→K' v' w')→∃v',en=.returned v'∧K' v' w':=fun {en w' K'} hp hk=>by
   obtain ⟨r,hr,v',σ',rfl,q1,q2,q3,q4,q5⟩:=hp
   obtain ⟨g1,g2⟩:=hC.grow _ _ _ _ _ _ hL0 hl2 r hr
   exact ⟨v',rfl,hk v' rfl ⟨r,hto r hr,σ',q1,hinv.back q2 q4 g2,q3,q4,fun j hj=>.inr (q5 j hj),g1,g2.weaken hl1⟩⟩
  unfold zCa at hcl
  split at hcl
  case h_3=>cases hcl
  case h_2=>
   rename_i i fi ca hf
   simp only [Option.some.injEq,Prod.mk.injEq] at hcl
   obtain ⟨rfl,rfl⟩:=hcl
   rw [hf] at hfv
   obtain ⟨L1,hL,rfl,rfl,hf'⟩:=hfv.yld_left
   simp only [List.nil_append,List.append_nil] at hL0
   obtain ⟨r,h1,h2,h3⟩:=hC.rounds _ _ _ _ _ _ hL0 hl2 W σ w _ L1 hinv' hargs hL
   simp only [Array.toArray_toList] at h2 h3
   rw [call_round (P:=P) ho hcal hf' h1 h2,Oper.uponIn_round]
   refine ⟨wf_depth,roundIn_wf (h3.mono fun en w' hp=>?_)⟩
   obtain ⟨v',rfl,hk⟩:=fin (K':=fun v' w'=>K (a.put o.dst v') w') hp fun v' _ ⟨r,hr,σ',hn⟩=>hK r hr v' w' σ' hn
   exact hk
  rename_i g' fi ca hf
  simp only [Option.some.injEq,Prod.mk.injEq] at hcl
  obtain ⟨rfl,rfl⟩:=hcl
  rw [hf] at hfv
  obtain ⟨fi',ca',hf',hfi,hca⟩:=hfv.func_left
  obtain ⟨fn,h1,h2,h3⟩:=hC.fn _ _ _ _ _ _ hL0
  have hrun:=call_enter (P:=P) (w:=w) ho hcal hf' h1 h2 h3
  have hcalls:=hC.calls _ _ _ _ _ _ hL0 hl2 W σ w (fi'.toList++(c.args.map a.eval).toList++ca'.toList) hinv' ((hfi.append hargs).append hca)
  have e:(fi'.toList++(c.args.map a.eval).toList++ca'.toList).toArray=fi'++c.args.map a.eval++ca':=by
   apply Array.ext';simp
  rw [e] at hcalls
  rw [hrun,Oper.uponIn_enter]
  refine ⟨wf_depth,callsIn_wf (hcalls.mono fun en w' hp=>?_)⟩
  obtain ⟨v',rfl,hk⟩:=fin (K':=fun v' w'=>K (a.put o.dst v') w') hp fun v' _ ⟨r,hr,σ',hn⟩=>hK r hr v' w' σ' hn
  exact hk
 ·have hnc:∀mp f args,ao≠.call mp f args:=fun mp f args e=>hcall ⟨mp,f,args,e⟩
  have hx':(aOp lim none ao ρ H).map (fun r=>[r])=some L:=by
   cases ao<;>first | exact hx | exact absurd rfl (hnc _ _ _)
  simp only [Option.map_eq_some_iff] at hx'
  obtain ⟨⟨v,H'⟩,hv,rfl⟩:=hx'
  refine stepOp_wp (callOk_none (Prg.mk P pf)) (dest:=none) htr hinv hl (fun d e=>by cases e) (fun d e=>by cases e) hρ (v:=v) (H':=H') (by rw [zSp hnc];exact hv) fun v' w' σ' hn=>hK (v,H') (by simp) v' w' σ' hn
theorem stepIt_wp {o:Oper} {x:Operand} {k:Nat} (htr:trSp P o=some (x,k)) (hinv:Inv (Prg.mk P pf) W lim σ H w) (hl:lim≤H.length)
  {ρ:Operand→Value} {a:Act} (hρ:∀x,zOo x=true→zVr σ (ρ x) (a.eval x)) {L} {i:zIn} (hi1:i.op=.mov x) (hi2:i.dest=some k) (hx:stepX C lim i ρ H=some L)
  {K:Act→World→Prop} {Q:Exit→Act→World→Prop} (hK:∀r∈L,∀v' w' σ',Next' (Prg.mk P pf) W lim σ none H w r.1 r.2 v' w' σ'→K (a.put o.dst v') w'):o.wpIn (WF ro) 0 P a w K Q:=by
 obtain ⟨dst,op,type,pos,after,guard⟩:=o
 unfold trSp at htr
 split at htr
 ·cases htr
 rename_i hok
 simp only [Bool.not_eq_true,Bool.not_eq_false'] at hok
 have hoks:∀x∈op.operands,zOo x=true:=fun x hx=>okOps (o:=⟨dst,op,type,pos,after,guard⟩) (by simpa using hok) hx
 unfold stepX at hx
 rw [hi2,hi1] at hx
 simp only [stepI] at hx
 have fin:∀{v v':Value} {H1:zH} {w1:World} {σ1:Sig},(v,H1)∈L→(execOp a.eval ⟨dst,op,type,pos,after,guard⟩).run P w=.ok (.value v') w1→Next' (Prg.mk P pf) W lim σ none H w v H1 v' w1 σ1→Oper.wpIn (WF ro) 0 P ⟨dst,op,type,pos,after,guard⟩ a w K Q:=fun {v v' H1 w1 σ1} hm hr hn=>by
  have hdf:∀c,op≠.defer c:=fun c e=>by
   subst e
   simp at htr
  refine ⟨fun _ _=>trivial, ?_⟩
  rw [Oper.semAt_eq _ _ _ hdf,hr,Oper.uponIn_value]
  exact hK _ hm _ _ _ hn
 cases op<;>simp only at htr<;>try (cases htr;done)
 case range t y=>
  split at htr
  case h_2=>cases htr
  rename_i kt et hu
  cases htr
  have hv:=hρ x (hoks x (by simp [Op.operands]))
  simp only at hx
  simp only [Option.map_eq_some_iff] at hx
  obtain ⟨p,hp,rfl⟩:=hx
  unfold aRangeMap at hp
  split at hp
  case h_2=>cases hp
  rename_i m es hm hes
  cases hp
  rw [hm] at hes hv
  rcases hinv.entries hv hes with ⟨hm',rfl⟩ | ⟨r,L,ents,clock,hm0,hb,hL,hm',hh,hlen,hrel⟩
  ·have hnm:m=none:=by
    cases m with
    | none=>rfl
    | some r=>obtain ⟨L,_,h2⟩:=hv.map_left;rw [hm'] at h2;cases h2
   subst hnm
   obtain ⟨i1,i2⟩:=hinv.push (b:=.iter none 0 []) (o:=.mapIter none 0 #[] 0) rfl ⟨rfl,none,rfl,World.alloc_heap_new _ _,fun j hj=>by cases hj⟩
   refine fin (List.mem_singleton.2 rfl) (v':=.pointer (some ⟨w.heap.size,0,none⟩)) (by
    simp only [execOp]
    refine zRv P w _ ?_
    rw [hm']
    exact run_range_nilMap w t kt et hu) ⟨by have:=zVr.ptr (σ:=σ.put H.length ⟨w.heap.size,0,0⟩) (k:=0) Sig.put_same;simpa using this,i1,Stp.alloc hinv.fresh _,Sig.le_put (hinv.dom _ (Nat.le_refl _)),i2,by simp,Grow.app hl fun b hb _=>by simp at hb;subst hb;rfl⟩
  ·cases hm0
   obtain ⟨t1,t2⟩:=hinv.stamps hb hL hh
   have hle:=Sig.le_put (L:=⟨w.heap.size,0,0⟩) (hinv.dom _ (Nat.le_refl H.length))
   obtain ⟨i1,i2⟩:=hinv.push (b:=.iter (some r) es.length []) (o:=.mapIter (some L.blk) clock #[] clock) rfl ⟨rfl,some L.blk,⟨L,hle _ _ hL,rfl⟩,by rw [←t1];exact World.alloc_heap_new _ _,fun j hj=>by cases hj⟩
   refine fin (List.mem_singleton.2 rfl) (v':=.pointer (some ⟨w.heap.size,0,none⟩)) (by
    simp only [execOp]
    refine zRv P w _ ?_
    rw [hm']
    exact run_range_map w t kt et L.blk ents clock hu hh) ⟨by have:=zVr.ptr (σ:=σ.put H.length ⟨w.heap.size,0,0⟩) (k:=0) Sig.put_same;simpa using this,i1,Stp.alloc hinv.fresh _,hle,i2,by simp,Grow.app hl fun b hb _=>by simp at hb;subst hb;rfl⟩
 case next it isS=>
  split at htr
  ·cases htr
  rename_i hs
  cases htr
  have hv:=hρ x (hoks x (by simp [Op.operands]))
  simp only at hx
  unfold aNext at hx
  split at hx
  case h_2=>cases hx
  rename_i r hr
  rw [hr] at hv
  obtain ⟨Lr,hLr,_,hv'⟩:=hv.ptr_left
  split at hx
  case h_2=>cases hx
  rename_i m n seen hb
  split at hx
  case isFalse=>cases hx
  rename_i hlr
  split at hx
  case h_2=>cases hx
  rename_i es hes
  split at hx
  case isFalse=>cases hx
  rename_i hn
  obtain ⟨L',h1,hbr⟩:=hinv.blk r _ (hget_some hb rfl) rfl
  have h1':σ r=some Lr:=hLr
  rw [h1'] at h1;cases h1
  obtain ⟨h0,m',hm,hh,hsn⟩:=hbr
  have hp:a.eval x=.pointer (some ⟨Lr.blk,0,none⟩):=by rw [hv',h0];rfl
  have hsf:isS=false:=by simpa using hs
  subst hsf
  cases m with
  | none=>
    cases hm
    have e0:es=[]:=by simp [mapEntries] at hes;exact hes
    subst e0
    have hn0:n=0:=by simpa using hn.symm
    subst hn0
    have hu:unmet 0 seen=[]:=rfl
    rw [hu] at hx
    cases hx
    refine fin (List.mem_singleton.2 rfl) (v':=.tuple #[.bool false]) (by
     simp only [execOp]
     refine zRv P w _ ?_
     rw [hp]
     simp only [Instr.next,getObj,Sem.run_bind,Sem.run,hh,Result.andThen]
     rfl) ⟨zVr.tuple_iff.2 (zLr.cons (.atom rfl) zLr.nil),hinv,Stp.refl _ _,Sig.le_refl _,fun j hj=>absurd rfl hj,Nat.le_refl _,Grow.refl _ _⟩
  | some mr=>
    obtain ⟨M,hM,rfl⟩:=hm
    have hbm:zG H mr=.map es:=by
     simp only [mapEntries] at hes
     split at hes
     ·rename_i hb';cases hes;exact hb'
     ·cases hes
    rcases hinv.entries (.map hM) hes with ⟨hm',_⟩ | ⟨r',L1,ents,clock,hm0,hb1,hL1,hm',hh1,hlen,hrel⟩
    ·cases hm'
    cases hm0
    have hLM:L1=M:=by rw [hL1] at hM;cases hM;rfl
    subst hLM
    obtain ⟨t1,t2⟩:=hinv.stamps hb1 hL1 hh1
    rw [t1,hn] at hh1
    simp only [Option.isSome_some,if_true] at hh
    rcases next_run (P:=P) (ty:=type) hh hh1 t2 (by rw [hlen,hn]) with ⟨hu,hrun⟩ | ⟨j,hj,e,he,w1,hw1,hrun⟩
    ·rw [hu] at hx
     cases hx
     refine fin (List.mem_singleton.2 rfl) (v':=.tuple #[.bool false]) (by
      simp only [execOp]
      refine zRv P w _ ?_
      rw [hp]
      exact hrun) ⟨zVr.tuple_iff.2 (zLr.cons (.atom rfl) zLr.nil),hinv,Stp.refl _ _,Sig.le_refl _,fun j hj=>absurd rfl hj,Nat.le_refl _,Grow.refl _ _⟩
    ·have hx':mapL (fun j=>match es[j]? with
       | some e=>if keyFlat e.1 then some (.tuple #[.bool true,e.1,e.2],H.set r (.iter (some mr) n (seen++[j]))) else none
       | none=>none) (unmet n seen)=some L:=by
      cases hu:unmet n seen with
      | nil=>rw [hu] at hj;cases hj
      | cons j0 l0=>rw [hu] at hx;exact hx
     obtain ⟨y,hy,ey⟩:=mapL_fwd hx' j hj
     have hjn:j<n:=by
      unfold unmet at hj
      exact List.mem_range.1 (List.mem_filter.1 hj).1
     have hje:j<es.length:=by omega
     rw [List.getElem?_eq_getElem hje] at ey
     simp only at ey
     split at ey
     case isFalse=>cases ey
     rename_i hkf
     cases ey
     obtain ⟨k1,k2⟩:=hrel j es[j] e (List.getElem?_eq_getElem hje) he
     have hinv1:Inv (Prg.mk P pf) W lim σ H w1:=by rcases hw1 with rfl | rfl;exact hinv;exact hinv.drew
     have hst1:Stp W w w1:=by rcases hw1 with rfl | rfl;exact Stp.refl _ _;exact Stp.drew
     have hlt:Lr.blk<w1.heap.size:=by
      have:=(Array.getElem?_eq_some_iff.1 hh).1
      rcases hw1 with rfl | rfl<;>exact this
     obtain ⟨i1,i2⟩:=hinv1.putLoop (o:=.mapIter (some L1.blk) n (seen++[j]).toArray n) (b':=.iter (some mr) n (seen++[j])) hb rfl hLr hlr
      ⟨h0,some L1.blk,⟨L1,hL1,rfl⟩,by simpa using World.putObj_heap_same hlt,fun i hi=>by
       rcases List.mem_append.1 hi with hi | hi
       ·exact hsn i hi
       ·rw [List.mem_singleton] at hi;subst hi;exact hjn⟩ (fun _=>rfl)
     refine fin hy (v':=.tuple #[.bool true,e.key,e.val]) (by
      simp only [execOp]
      refine zRv P w _ ?_
      rw [hp]
      exact hrun) ⟨zVr.tuple_iff.2 (zLr.cons (.atom rfl) (zLr.cons (by rw [←k1];exact keyFlat_rel hkf) (zLr.cons k2 zLr.nil))),i1,hst1.trans i2,Sig.le_refl _,fun j hj=>absurd rfl hj,by simp,Grow.set hlr fun _=>rfl⟩
 case entry it=>
  cases htr
  have hv:=hρ x (hoks x (by simp [Op.operands]))
  simp only at hx
  simp only [Option.map_eq_some_iff] at hx
  obtain ⟨p,hp,rfl⟩:=hx
  unfold aEntry at hp
  split at hp
  case h_2=>cases hp
  rename_i r hr
  rw [hr] at hv
  obtain ⟨L,hL,_,hv'⟩:=hv.ptr_left
  split at hp
  case h_2=>cases hp
  rename_i mr n seen hb
  split at hp
  case h_2=>cases hp
  rename_i es j hes hlast
  split at hp
  case isFalse=>cases hp
  rename_i hn
  split at hp
  case h_2=>cases hp
  rename_i e0 he0
  split at hp
  case isFalse=>cases hp
  rename_i hkf
  cases hp
  obtain ⟨L',h1,hbr⟩:=hinv.blk r _ (hget_some hb rfl) rfl
  have h1':σ r=some L:=hL
  rw [h1'] at h1;cases h1
  obtain ⟨h0,m',⟨M,hM,rfl⟩,hh,hsn⟩:=hbr
  have hpt:a.eval x=.pointer (some ⟨L.blk,0,none⟩):=by rw [hv',h0];rfl
  rcases hinv.entries (.map hM) hes with ⟨hm',_⟩ | ⟨r',L1,ents,clock,hm0,hb1,hL1,hm',hh1,hlen,hrel⟩
  ·cases hm'
  cases hm0
  have hLM:L1=M:=by rw [hL1] at hM;cases hM;rfl
  subst hLM
  obtain ⟨t1,t2⟩:=hinv.stamps hb1 hL1 hh1
  rw [t1,hn] at hh1
  simp only [Option.isSome_some,if_true] at hh
  have hjl:j<es.length:=(List.getElem?_eq_some_iff.1 he0).1
  have hje:j<ents.size:=by omega
  obtain ⟨k1,k2⟩:=hrel j e0 ents[j] he0 (by simp [hje])
  obtain ⟨s0,rfl⟩:∃s0,seen=s0++[j]:=by
   exact List.getLast?_eq_some_iff.1 hlast
  have hfind:ents.find? (·.born == j)=some ents[j]:=by
   rw [←Array.find?_toList]
   have hnd:(ents.toList.map (·.born)).Nodup:=by
    have:ents.toList.map (·.born)=List.range ents.size:=by
     apply List.ext_getElem (by simp)
     intro i h1 h2
     simp at h1 h2
     simp
     exact t2 i ents[i] (by simp)
    rw [this];exact List.nodup_range
   have:=find_born ents[j] ents.toList hnd (by simp)
   rw [t2 j ents[j] (by simp [hje])] at this
   exact this
  refine fin (List.mem_singleton.2 rfl) (v':=.tuple #[ents[j].key,ents[j].val]) (by
   simp only [execOp]
   refine zRv P w _ ?_
   rw [hpt]
   have hbk:(s0++[j]).toArray.back? = some j:=by simp
   simp only [Instr.entry,getObj,Sem.run_bind,Sem.run,hh,hh1,hbk,Result.andThen,bne_self_eq_false,Bool.false_eq_true,if_false,hfind]
   rfl) ⟨zVr.tuple_iff.2 (zLr.cons (by rw [←k1];exact keyFlat_rel hkf) (zLr.cons k2 zLr.nil)),hinv,Stp.refl _ _,Sig.le_refl _,fun j hj=>absurd rfl hj,Nat.le_refl _,Grow.refl _ _⟩
theorem insS_wp (hC:CallOkS (Prg.mk P pf) C) {ops:Array Oper} {j:Nat} {o:Oper} (hj:ops[j]? = some o) {i:zIn} (htr:trInsP P pureF ops o=some i) {N:Nat} {fr:Nat→Value} {a:Act} (hs:State (Prg.mk P pf) ds W lim σ N fr H a w)
  {L} (hx:insS C N lim i fr H=some L) {K:Act→World→Prop} {Q:Exit→Act→World→Prop} (hK:∀r∈L,∀σ' a' w',State (Prg.mk P pf) ds W lim σ' N r.1 r.2 a' w'→Stp W w w'→Sig.le σ σ'→Grow lim H r.2→(∀j,σ' j≠σ j→H.length≤j)→H.length≤r.2.length→K a' w'):wpOpIn (WF ro) 0 P ops Q j K a w:=by
 have hcase:(∃ao,trOp P pureF false o=some ao∧i.op=ao∧i.dest=none∨∃x k,trSp P o=some (x,k)∧i.op=.mov x∧i.dest=some k)∧i.dst=o.dst∧trGuard ops o.guard=some i.guard:=by
  unfold trInsP at htr
  split at htr
  ·rename_i i' hi'
   cases htr
   obtain ⟨ao,hao,hi'⟩:=zOb hi'
   obtain ⟨g,hg,hi'⟩:=zOb hi'
   cases hi'
   exact ⟨⟨ao,.inl ⟨hao,rfl,rfl⟩⟩,rfl,hg⟩
  ·obtain ⟨⟨x,k⟩,hao,htr⟩:=zOb htr
   obtain ⟨g,hg,htr⟩:=zOb htr
   cases htr
   exact ⟨⟨default,.inr ⟨x,k,hao,rfl,rfl⟩⟩,rfl,hg⟩
 obtain ⟨hcase,hdst,hg⟩:=hcase
 unfold wpOpIn
 rw [hj]
 simp only
 unfold insS at hx
 cases hw:wantedA N fr i.guard with
 | none=>rw [hw] at hx;cases hx
 | some b=>
 rw [hs.fr.wanted hg hw]
 rw [hw] at hx
 cases b with
 | false=>
   simp only [Bool.false_eq_true,if_false]
   simp only [Option.map_eq_some_iff] at hx
   obtain ⟨f,hf,rfl⟩:=hx
   rw [hdst] at hf
   exact ⟨fun _ _=>trivial,hK _ (List.mem_singleton.2 rfl) σ _ w ⟨hs.fr.put (.atom rfl) hf,hs.inv,hs.lim⟩ (Stp.refl _ _) (Sig.le_refl _) (Grow.refl _ _) (fun j hj=>absurd rfl hj) (Nat.le_refl _)⟩
 | true=>
   simp only [if_true]
   simp only at hx
   split at hx
   case h_2=>cases hx
   rename_i L0 hL0
   have go:∀r∈L0,∀v' w' σ',Next' (Prg.mk P pf) W lim σ none H w r.1 r.2 v' w' σ'→K (a.put o.dst v') w':=fun r hr v' w' σ' hn=>by
    obtain ⟨y,hy,ey⟩:=mapL_fwd hx r hr
    simp only [Option.map_eq_some_iff] at ey
    obtain ⟨f,hf,rfl⟩:=ey
    rw [hdst] at hf
    obtain ⟨q1,q2,q3,q4,q5,q6,q7⟩:=hn
    exact hK _ hy σ' _ w' ⟨(hs.fr.mono q4).put q1 hf,q2,by have:=hs.lim;simp only;omega⟩ q3 q4 q7 (fun j hj=>(q5 j hj).resolve_left (by simp)) q6
   obtain ⟨ao,⟨hao,h1,h2⟩ | ⟨x,k,hao,h1,h2⟩⟩:=hcase
   ·have hL0':stepS C lim ao (ev fr) H=some L0:=by
     unfold stepX at hL0
     rw [h2,h1] at hL0
     exact hL0
    exact stepS_wp hC hao hs.inv hs.lim (fun x hx=>hs.fr.ev hx) hL0' go
   ·exact stepIt_wp hao hs.inv hs.lim (fun x hx=>hs.fr.ev hx) h1 h2 hL0 go
theorem plain_regionS (hC:CallOkS (Prg.mk P pf) C) {ops:Array Oper} {N:Nat} {Q:Exit→Act→World→Prop} (W:Nat→Prop) (lim:Nat) (σ0:Sig) (H0:zH) (w0:World) {l:List zIn} (hl:ops.toList.mapM (trInsP P pureF ops)=some l) :
  ∀(m s:Nat) (fr:Nat→Value) (H:zH) (a:Act) (w:World) (σ:Sig) (LL:List ((Nat→Value)×zH)),
   (∀r∈LL,∀a w σ,State (Prg.mk P pf) ds W lim σ N r.1 r.2 a w→Stp W w0 w→Sig.le σ0 σ→Grow lim H0 r.2→(∀j,σ j≠σ0 j→H0.length≤j)→H0.length≤r.2.length→Q .normal a w)→
   s+m=ops.size→State (Prg.mk P pf) ds W lim σ N fr H a w→Stp W w0 w→Sig.le σ0 σ→Grow lim H0 H→(∀j,σ j≠σ0 j→H0.length≤j)→H0.length≤H.length→
   dOpsS C N lim (l.drop s) fr H=some LL→wpOpsIn (WF ro) 0 P ops Q (List.range' s m) a w
 | 0,s,fr,H,a,w,σ,LL,hQ,hs,hst,h1,h2,h3,h4,h5,hx=>by
   have hlen:=(mapM_get hl).1
   have:l.drop s=[]:=by
    apply List.drop_eq_nil_of_le
    rw [hlen];simp;omega
   rw [this] at hx
   simp [dOpsS] at hx
   subst hx
   simp only [List.range'_zero,wpOpsIn]
   exact hQ (fr,H) (by simp) a w σ hst h1 h2 h3 h4 h5
 | m+1,s,fr,H,a,w,σ,LL,hQ,hs,hst,h1,h2,h3,h4,h5,hx=>by
   obtain ⟨hlen,zG⟩:=mapM_get hl
   have hsl:s<l.length:=by rw [hlen];simp;omega
   have hso:s<ops.size:=by omega
   rw [List.drop_eq_getElem_cons hsl] at hx
   simp only [dOpsS] at hx
   split at hx
   case h_2=>cases hx
   rename_i L hL
   have htr:=zG s ops[s] l[s] (by simp [hso]) (by simp [hsl])
   rw [List.range'_succ,wpOpsIn_cons]
   refine insS_wp hC (by simp [hso]) htr hst hL fun r hr σ' a' w' q1 q2 q3 q4 q5 q6=>?_
   obtain ⟨L',hL',hsub⟩:=bindL_fwd hx r hr
   exact plain_regionS hC W lim σ0 H0 w0 hl m (s+1) r.1 r.2 a' w' σ' L' (fun x hx=>hQ x (hsub x hx)) (by omega) q1 (h1.trans q2) (Sig.le_trans h2 q3) (h3.trans q4)
    (fun j hj=>by
     apply Decidable.byContradiction
     intro hc
     have e1:σ j=σ0 j:=Classical.byContradiction fun e=>hc (h4 j e)
     have:=q5 j (fun e=>hj (e.trans e1))
     omega) (by omega) hL'
end
end Go.AM

namespace Go.AM
open Go.RowKit
structure EnvOk (P:Program) (E:Env):Prop where
 tr:∀g af,E.tr g=some af→zTf P E.pure g=some af
 orcFn:∀g as v,E.orc g as=some v→∃fn,P.funcs[g]? = some fn∧fn.body.isSome=true∧(fn.name == "runtime.NumGoroutine")=false
 orc:∀g as v,E.orc g as=some v→∀w,Held (Prg.mk P (Env.pure E)) w→Calls P g as.toArray w fun e w'=>e=.returned v∧Below w.heap.size w w'∧w.drawn≤w'.drawn
 orcFlat:∀g as v,E.orc g as=some v→∀σ,zVr σ v v
 mixed:P.follows .mixedOrders=true
 effFn:∀g as H r,E.eff g as H=some r→∃fn,P.funcs[g]? = some fn∧fn.body.isSome=true∧(fn.name == "runtime.NumGoroutine")=false
 eff:∀g as H r,E.eff g as H=some r→∀lim,lim≤H.length→updOk lim H r.2.2=true→∀W σ w as',Inv (Prg.mk P (Env.pure E)) W lim σ H w→zLr σ as as'→Calls P g as'.toArray w (CallPost (Prg.mk P (Env.pure E)) W lim σ H r.1 (effH H r.2) w)
theorem zVr.eq_of_atom {σ:Sig} {v v':Value} (h:zVr σ v v') (ha:AM.atom v=true):v'=v:=by
 cases h with
 | atom _=>rfl
 | func h1 h2 k1 k2=>
   simp [AM.atom] at ha
   obtain ⟨rfl,rfl⟩:=ha
   simp at h1 h2
   rw [Array.size_eq_zero_iff.1 h1.symm,Array.size_eq_zero_iff.1 h2.symm]
 | tuple h k=>
   simp [AM.atom] at ha
   subst ha
   rw [Array.size_eq_zero_iff.1 h.symm]
 | _=>simp [AM.atom] at ha
theorem olds_of_atom {n:Nat} (d:Nat) {v:Value} (h:AM.atom v=true):olds n d v=true:=by
 cases v with
 | pointer o=>
   cases o with
   | none=>cases d<;>rfl
   | some a=>simp [AM.atom] at h
 | map o=>
   cases o with
   | none=>cases d<;>rfl
   | some a=>simp [AM.atom] at h
 | slice o a b=>
   cases o with
   | none=>cases d<;>exact h
   | some a=>simp [AM.atom] at h
 | agg cs=>simp [AM.atom] at h
 | tuple cs=>
   have:cs=#[]:=by simpa [AM.atom] using h
   subst this
   cases d<;>rfl
 | _=>cases d<;>exact h
theorem olds_of_flat {n:Nat}:∀(d:Nat) {v:Value},flat d v=true→olds n d v=true
 | 0,v,h=>olds_of_atom 0 (by cases v<;>simpa [flat] using h)
 | d+1,v,h=>by
   cases v with
   | agg cs=>simp only [flat,olds,List.all_eq_true] at h⊢;exact fun x hx=>olds_of_flat d (h x hx)
   | tuple cs=>simp only [flat,olds,List.all_eq_true] at h⊢;exact fun x hx=>olds_of_flat d (h x hx)
   | _=>exact olds_of_atom _ (by simpa [flat] using h)
theorem zVr.olds {σ τ:Sig} {n:Nat} (hs:∀i L,i<n→σ i=some L→τ i=some L):∀(d:Nat) {v v':Value},zVr σ v v'→olds n d v=true→zVr τ v v'
 | 0,v,v',h,hf=>by
   cases h with
   | atom h=>exact .atom h
   | ptr h=>exact .ptr (hs _ _ (by simpa [AM.olds] using hf) h)
   | slice h hc=>exact .slice (hs _ _ (by simpa [AM.olds] using hf) h) hc
   | lslice h hn hr=>exact .lslice (hs _ _ (by simpa [AM.olds] using hf) h) hn hr
   | eslice h hc=>exact .eslice (hs _ _ (by simpa [AM.olds] using hf) h) hc
   | map h=>exact .map (hs _ _ (by simpa [AM.olds] using hf) h)
   | err=>exact .err
   | func h1 h2 k1 k2=>
     rw [(zVr.func h1 h2 k1 k2).eq_of_atom (by simpa [AM.olds] using hf)]
     exact .atom (by simpa [AM.olds] using hf)
   | yld h=>simp [AM.olds,AM.atom] at hf
   | agg h k o=>simp [AM.olds,AM.atom] at hf
   | @tuple xs ys h k=>
     have ha:AM.atom (.tuple xs)=true:=by simpa [AM.olds] using hf
     rw [(zVr.tuple h k).eq_of_atom ha]
     exact .atom ha
 | d+1,v,v',h,hf=>by
   cases h with
   | agg h k o=>
     simp only [AM.olds,List.all_eq_true] at hf
     exact .agg h (fun i h1 h2=>zVr.olds hs d (k i h1 h2) (hf _ (by simp))) o
   | tuple h k=>
     simp only [AM.olds,List.all_eq_true] at hf
     exact .tuple h (fun i h1 h2=>zVr.olds hs d (k i h1 h2) (hf _ (by simp)))
   | atom h=>exact .atom h
   | ptr h=>exact .ptr (hs _ _ (by simpa [AM.olds] using hf) h)
   | slice h hc=>exact .slice (hs _ _ (by simpa [AM.olds] using hf) h) hc
   | lslice h hn hr=>exact .lslice (hs _ _ (by simpa [AM.olds] using hf) h) hn hr
   | eslice h hc=>exact .eslice (hs _ _ (by simpa [AM.olds] using hf) h) hc
   | map h=>exact .map (hs _ _ (by simpa [AM.olds] using hf) h)
   | err=>exact .err
   | func h1 h2 k1 k2=>
     rw [(zVr.func h1 h2 k1 k2).eq_of_atom (by simpa [AM.olds] using hf)]
     exact .atom (by simpa [AM.olds] using hf)
   | yld h=>simp [AM.olds,AM.atom] at hf
section
variable {P:Program} {pf:FuncId→Bool} {W:Nat→Prop} {lim:Nat} {σ:Sig} {H H':zH} {w:World} {ds:List Deferred}
inductive Md where
 | n | m | r (i:Nat)
def trX (P:Program) (pf:FuncId→Bool):Md→Code→Option zAc
 | .n=>trCode P pf
 | .m=>trCodeM P pf
 | .r _=>trCodeR P pf
inductive XC (P:Program) (pf:FuncId→Bool):Md→Code→zAc→Prop
 | skip {md}:XC P pf md .skip .skip
 | plain {md id ops l} (h:ops.toList.mapM (trInsP P pf ops)=some l):XC P pf md (.region id ops false) (.ops l)
 | drawn {md id ops n L} (h:trDrawn P pf ops=some (.drawn n L)):XC P pf md (.region id ops true) (.drawn n L)
 | seq {md a b a' b'} (h:trX P pf md a=some a') (k:trX P pf md b=some b'):XC P pf md (.seq a b) (.seq a' b')
 | cond {md c a b a' b'} (ho:zOo c=true) (h:trX P pf md a=some a') (k:trX P pf md b=some b'):XC P pf md (.cond c a b) (.cond c a' b')
 | block {md id a a'} (h:trX P pf md a=some a'):XC P pf md (.block id a) (.block id a')
 | loop {md a a'} (h:trX P pf md a=some a'):XC P pf md (.loop a) (.loop a')
 | exit {md id} (h:∀i,md≠.r i):XC P pf md (.exit id) (.exit id)
 | exitR {i id}:XC P pf (.r i) (.exit id) (.exitR id)
 | ret:XC P pf .n .ret .ret
 | retM:XC P pf .m .ret .retM
 | retR {i}:XC P pf (.r i) .ret .retR
 | rangeF {f ps a b a' b'} (ho:zOo f=true) (h:trCodeR P pf a=some a') (k:trCodeR P pf b=some b'):XC P pf .m (.rangeFunc f ps a b) (.rangeF f ps.toList a' b')
theorem trDrawn_shape {ops:Array Oper} {c:zAc} (h:trDrawn P pf ops=some c):∃n L,c=.drawn n L:=by
 obtain ⟨st,h⟩:∃st,trDrawn0 P pf st ops=some c:=by
  unfold trDrawn at h
  split at h
  ·rename_i hc;cases h;exact ⟨_,hc⟩
  ·exact ⟨_,h⟩
 unfold trDrawn0 at h
 obtain ⟨l,hl,h⟩:=zOb h
 simp only at h
 repeat' (split at h)
 all_goals first
  | (cases h;done)
  | (cases h;exact ⟨_,_,rfl⟩)
theorem trX_cases {md:Md} {C:Code} {c:zAc} (h:trX P pf md C=some c):XC P pf md C c:=by
 cases md<;>cases C<;>simp only [trX,trCode,trCodeM,trCodeR] at h<;>try (cases h;done)
 all_goals first
  | (cases h;first | exact .skip | exact .exit (by intros;nofun) | exact .exitR | exact .ret | exact .retM | exact .retR;done)
  | (rename_i id ops draw
     cases draw with
     | false=>simp only [Bool.false_eq_true,if_false] at h;obtain ⟨l,hl,h⟩:=zOb h;cases h;exact .plain hl
     | true=>simp only [if_true] at h;obtain ⟨n,L,rfl⟩:=trDrawn_shape h;exact .drawn h
     done)
  | (obtain ⟨x',hx',h⟩:=zOb h;obtain ⟨y',hy',h⟩:=zOb h;cases h;exact .seq hx' hy';done)
  | (obtain ⟨x',hx',h⟩:=zOb h;cases h;first | exact .block hx' | exact .loop hx';done)
  | (split at h
     case isFalse=>cases h
     rename_i hok
     obtain ⟨x',hx',h⟩:=zOb h;obtain ⟨y',hy',h⟩:=zOb h;cases h;first | exact .cond hok hx' hy' | exact .rangeF hok hx' hy'
     done)
inductive KRel (P:Program) (pf:FuncId→Bool):Md→List Nat→List zAi→List Item→Prop
 | nilN:KRel P pf .n [] [] []
 | nilM {ms:List Nat}:KRel P pf .m ms (.code .retM::ms.map .mark) []
 | nilR {i:Nat}:KRel P pf (.r i) [] [.round i] []
 | code {md ms c C k K} (h:trX P pf md C=some c) (t:KRel P pf md ms k K):KRel P pf md ms (.code c::k) (.code C::K)
 | inBlock {md ms id k K} (t:KRel P pf md ms k K):KRel P pf md ms (.inBlock id::k) (.inBlock id::K)
 | inLoop {md ms c C k K} (h:trX P pf md C=some c) (t:KRel P pf md ms k K):KRel P pf md ms (.inLoop c::k) (.inLoop C::K)
 | begin {i ms k K} (t:KRel P pf (.r i) ms k K):KRel P pf (.r i) ms (.begin i::k) (.beginRound::K)
theorem aExit_marks {id:Nat}:∀(ms:List Nat),aExit id (ms.map .mark)=none
 | []=>rfl
 | i::ms=>by simp only [List.map_cons,aExit];exact aExit_marks ms
theorem KRel.exit {md:Md} {ms:List Nat} {id:Nat} {k k':List zAi} {K:List Item} (h:KRel P pf md ms k K) (he:aExit id k=some k'):∃K',exitTo id K=some K'∧KRel P pf md ms k' K':=by
 induction h with
 | nilN=>simp [aExit] at he
 | nilM=>simp only [aExit,aExit_marks] at he;cases he
 | nilR=>simp [aExit] at he
 | code h t ih=>simp only [aExit] at he;simp only [exitTo];exact ih he
 | inLoop h t ih=>simp only [aExit] at he;simp only [exitTo];exact ih he
 | begin t ih=>simp only [aExit] at he;simp only [exitTo];exact ih he
 | inBlock t ih=>
   simp only [aExit] at he
   simp only [exitTo,beq_iff_eq]
   split at he
   ·rename_i e;rw [if_pos e];cases he;exact ⟨_,rfl,t⟩
   ·rename_i e;rw [if_neg e];exact ih he
theorem KRel.noExit {md:Md} {ms:List Nat} {id:Nat} {k:List zAi} {K:List Item} (h:KRel P pf md ms k K) (he:aExit id k=none):exitTo id K=none:=by
 induction h with
 | nilN=>rfl
 | nilM=>rfl
 | nilR=>rfl
 | code h t ih=>simp only [aExit] at he;simp only [exitTo];exact ih he
 | inLoop h t ih=>simp only [aExit] at he;simp only [exitTo];exact ih he
 | begin t ih=>simp only [aExit] at he;simp only [exitTo];exact ih he
 | inBlock t ih=>
   simp only [aExit] at he
   simp only [exitTo,beq_iff_eq]
   split at he
   ·cases he
   ·rename_i e;rw [if_neg e];exact ih he
theorem KRel.roundOf {i:Nat} {ms:List Nat} {k:List zAi} {K:List Item} (h:KRel P pf (.r i) ms k K):roundOf k=some i:=by
 generalize hm:Md.r i=md at h
 induction h with
 | nilN=>cases hm
 | nilM=>cases hm
 | nilR=>cases hm;rfl
 | code h t ih=>simp only [AM.roundOf];exact ih hm
 | inLoop h t ih=>simp only [AM.roundOf];exact ih hm
 | begin t ih=>simp only [AM.roundOf];exact ih hm
 | inBlock t ih=>simp only [AM.roundOf];exact ih hm
theorem marks_map:∀(ms:List Nat),marks (ms.map .mark)=ms.reverse
 | []=>rfl
 | i::ms=>by simp only [List.map_cons,marks,marks_map ms,List.reverse_cons]
theorem KRel.marks {ms:List Nat} {k:List zAi} {K:List Item} (h:KRel P pf .m ms k K):marks k=ms.reverse:=by
 generalize hm:Md.m=md at h
 induction h with
 | nilN=>cases hm
 | nilM=>simp only [AM.marks];exact marks_map _
 | nilR=>cases hm
 | code h t ih=>simp only [AM.marks];exact ih hm
 | inLoop h t ih=>simp only [AM.marks];exact ih hm
 | begin t ih=>cases hm
 | inBlock t ih=>simp only [AM.marks];exact ih hm
theorem KRel.addMark {ms:List Nat} {k:List zAi} {K:List Item} (h:KRel P pf .m ms k K) (i:Nat):KRel P pf .m (ms++[i]) (k++[.mark i]) K:=by
 generalize hm:Md.m=md at h
 induction h with
 | nilN=>cases hm
 | @nilM ms=>have:(KRel P pf .m (ms++[i]) (.code .retM::(ms++[i]).map .mark) []):=.nilM
             simpa using this
 | nilR=>cases hm
 | code h t ih=>subst hm;exact .code h (ih rfl)
 | inLoop h t ih=>subst hm;exact .inLoop h (ih rfl)
 | begin t ih=>cases hm
 | inBlock t ih=>subst hm;exact .inBlock (ih rfl)
def DsRel (lim:Nat) (σ:Sig):List Nat→List Deferred→Prop
 | [],ds=>ds=[]
 | i::l,ds=>∃L ds',lim≤i∧σ i=some L∧ds={ target:=.collected L.blk,args:=#[] }::ds'∧DsRel lim σ l ds'
theorem DsRel.mono {lim:Nat} {σ τ:Sig} (hle:Sig.le σ τ):∀{l:List Nat} {ds:List Deferred},DsRel lim σ l ds→DsRel lim τ l ds
 | [],_,h=>h
 | i::l,_,⟨L,ds',h0,h1,h2,h3⟩=>⟨L,ds',h0,hle _ _ h1,h2,DsRel.mono hle h3⟩
theorem Inv.pad (h:Inv (Prg.mk P pf) W lim σ H w) (n:Nat):Inv (Prg.mk P pf) W lim σ (H++List.replicate n .dead) w:=by
 have get:∀(j:Nat) b,(H++List.replicate n Blk.dead)[j]? = some b→alive b=true→H[j]? = some b:=fun j b hb ha=>by
  by_cases hj:j<H.length
  ·rw [List.getElem?_append_left hj] at hb;exact hb
  ·rw [List.getElem?_append_right (by omega),List.getElem?_replicate] at hb
   split at hb
   ·cases hb;simp [alive] at ha
   ·cases hb
 exact ⟨h.toRoot,fun i b hb ha=>h.blk i b (get i b hb ha) ha,fun i j bi bj Li Lj hi hj hne ho ha=>h.inj i j bi bj Li Lj (get i bi hi (zAo ho)) (get j bj hj ha) hne ho ha,
  fun i b L hb ho=>h.wr i b L (get i b hb (zAo ho)) ho,fun i hi=>h.dom i (by simp at hi;omega)⟩
theorem resVal_sound {fr:Nat→Value} {N:Nat} {a:Act} (hs:State (Prg.mk P pf) ds W lim σ N fr H a w) {r:ResultVar} {ar:ARes} (ht:trRes P r=some ar) {v:Value} (hv:zRe fr H ar=some v) :
  ∃v',(match r with | .tmp t=>pure (a.tmps.getD t undef) | .cell b t=>do loadVar t (←asAddr (a.tmps.getD b undef)):Sem Value).run P w=.ok v' w∧zVr σ v v':=by
 cases r with
 | tmp t=>
   simp only [trRes] at ht;cases ht
   simp only [zRe] at hv;cases hv
   exact ⟨_,rfl,hs.fr.val t⟩
 | cell b t=>
   simp only [trRes] at ht
   obtain ⟨n,hn,ht⟩:=zOb ht
   obtain ⟨ag,hag,ht⟩:=zOb ht
   have hb:=hs.fr.val b
   cases ag with
   | true=>
     simp at ht;subst ht
     simp only [zRe] at hv
     split at hv
     case h_2=>cases hv
     rename_i p hp
     simp only [Option.map_eq_some_iff] at hv
     obtain ⟨c,hc,rfl⟩:=hv
     rw [hp] at hb
     obtain ⟨L,hL,hsp,h2⟩:=hb.ptr_left
     obtain ⟨v',h3,h4⟩:=loadN_sound (P:=P) hs.inv hag hn hL hc
     exact ⟨v',by simp only [h2];simp [asAddr,h3],h4⟩
   | false=>
     simp at ht;subst ht
     simp only [zRe] at hv
     split at hv
     case h_2=>cases hv
     rename_i p hp
     rw [hp] at hb
     obtain ⟨L,hL,hsp,h2⟩:=hb.ptr_left
     obtain ⟨v',h3,h4⟩:=load1_sound (P:=P) hs.inv hag hL hv
     exact ⟨v',by simp only [h2];simp [asAddr,h3],h4⟩
theorem resAll_sound {fr:Nat→Value} {N:Nat} {a:Act} (hs:State (Prg.mk P pf) ds W lim σ N fr H a w):∀{rs:List ResultVar} {ars:List ARes} {vs:List Value},rs.mapM (trRes P)=some ars→resAll fr H ars=some vs→
  ∃vs',(rs.mapM (fun r=>(match r with | .tmp t=>pure (a.tmps.getD t undef) | .cell b t=>do loadVar t (←asAddr (a.tmps.getD b undef)):Sem Value))).run P w=.ok vs' w∧zLr σ vs vs'
 | [],ars,vs,h,hv=>by
   simp at h;subst h
   simp [resAll] at hv;subst hv
   exact ⟨[],by simp,zLr.nil⟩
 | r::rs,ars,vs,h,hv=>by
   rw [List.mapM_cons] at h
   obtain ⟨b,hb,h⟩:=zOb h
   obtain ⟨r',hr',h⟩:=zOb h
   cases h
   simp only [resAll] at hv
   split at hv
   case h_2=>cases hv
   rename_i v vs1 h1 h2
   cases hv
   obtain ⟨v',k1,k2⟩:=resVal_sound hs hb h1
   obtain ⟨vs',k3,k4⟩:=resAll_sound hs hr' h2
   refine ⟨v'::vs', ?_,zLr.cons k2 k4⟩
   rw [List.mapM_cons]
   simp only [Sem.run_bind,k1,k3,Result.andThen_ok,Sem.run_pure]
theorem results_sound {fr:Nat→Value} {N:Nat} {a:Act} (hs:State (Prg.mk P pf) ds W lim σ N fr H a w) {fn:Func} {ars:List ARes} (ht:fn.results.toList.mapM (trRes P)=some ars) {v:Value} (hv:result fr H ars=some v) :
  ∃v',(results fn a.tmps).run P w=.ok v' w∧zVr σ v v':=by
 unfold result at hv
 cases hr:resAll fr H ars with
 | none=>rw [hr] at hv;cases hv
 | some vs=>
   obtain ⟨vs',k1,k2⟩:=resAll_sound hs ht hr
   rw [hr] at hv
   unfold results
   rw [Array.mapM_eq_mapM_toList]
   simp only [Sem.run_bind,Sem.run_map]
   erw [k1]
   simp only [Result.andThen_ok,Sem.run_pure]
   refine ⟨_,rfl, ?_⟩
   match vs,vs',k2 with
   | [],vs',k2=>
     have:vs'=[]:=by have:=k2.1;simp at this;exact List.length_eq_zero_iff.1 this.symm
     subst this
     simp at hv;subst hv
     exact .atom rfl
   | [x],vs',k2=>
     have hl:=k2.1
     match vs',hl,k2 with
     | [y],_,k2=>simp at hv;subst hv;exact k2.head
   | x::y::zs,vs',k2=>
     have hl:=k2.1
     match vs',hl,k2 with
     | x'::y'::zs',_,k2=>
       simp at hv;subst hv
       have:¬((x'::y'::zs').toArray.size=1):=by simp
       rw [dif_neg this]
       exact zVr.tuple_iff.2 k2
theorem Inv.loop (h:Inv (Prg.mk P pf) W lim σ H w) {i:Nat} {x:LoopB} {L:Loc} (hb:zG H i=.loop x) (hL:σ i=some L):∃lp,w.heap[L.blk]? = some (.loop lp)∧LoopRel (Prg.mk P pf) σ x lp:=by
 obtain ⟨L',h1,h2⟩:=h.blk i _ (hget_some hb rfl) rfl
 rw [hL] at h1;cases h1
 exact h2
theorem shut_steps {b:Frame} {a:Act} {todo:List Item} {cs:List Frame}:∀(l:List Nat) (ds:List Deferred) {H H':zH} {w:World},DsRel lim σ l ds→Inv (Prg.mk P pf) W lim σ H w→shut lim l H=some H'→
  ∃w',Steps P (lone { b.atR { a with defers:=ds } todo with mode:=.returning } cs w) (lone { b.atR { a with defers:=[] } todo with mode:=.returning } cs w')∧Inv (Prg.mk P pf) W lim σ H' w'∧Stp W w w'∧H'.length=H.length
 | [],ds,H,H',w,hd,hi,hs=>by
   cases hd;cases hs
   exact ⟨w,.refl _ _,hi,Stp.refl _ _,rfl⟩
 | i::l,ds,H,H',w,hd,hi,hs=>by
   obtain ⟨L,ds',h0,h1,rfl,h3⟩:=hd
   simp only [shut] at hs
   split at hs
   case h_2=>cases hs
   rename_i hb
   rw [if_pos h0] at hs
   obtain ⟨L',g1,g2⟩:=hi.blk i _ (hget_some hb rfl) rfl
   rw [h1] at g1;cases g1
   obtain ⟨i1,i2⟩:=hi.putLoop (o:=.deferred none) (b':=.dead) hb rfl h1 h0 trivial (fun h=>by simp [alive] at h)
   obtain ⟨w',k1,k2,k3,k4⟩:=shut_steps l ds' h3 i1 hs
   refine ⟨w',Steps.head (step_collected (fr:={ b.atR { a with defers:=_::ds' } todo with mode:=.returning }) (by simp) rfl rfl (run_takeDeferred g2)) k1,k2,i2.trans k3,by simpa using k4⟩
theorem endRound_sound (h:Inv (Prg.mk P pf) W lim σ H w) {i:Nat} {L:Loc} (hL:σ i=some L) (hl:lim≤i) {j:Option zAc} {J:Option Code}
  (hj:match j with | none=>J=none | some c=>∃C,J=some C∧trCodeM P pf C=some c) {v:Value} (he:endRound i j H=some (v,H')) :
  ∃w',(Instr.endRound L.blk J).run P w=.ok v w'∧zVr σ v v∧Inv (Prg.mk P pf) W lim σ H' w'∧Stp W w w':=by
 unfold endRound at he
 split at he
 case h_2=>cases he
 rename_i x hb
 obtain ⟨lp,h1,h2⟩:=h.loop hb hL
 have hJ:J.isNone=j.isNone:=by
  cases j with
  | none=>simp only at hj;subst hj;rfl
  | some c=>obtain ⟨C,rfl,_⟩:=hj;rfl
 have hlt:L.blk<w.heap.size:=(Array.getElem?_eq_some_iff.1 h1).1
 simp only [Option.some.injEq,Prod.mk.injEq] at he
 obtain ⟨rfl,rfl⟩:=he
 obtain ⟨i1,i2⟩:=h.putLoop (o:=.loop { lp with state:=if J.isNone then .ready else .done,pending:=J }) (b':=.loop { x with st:=if j.isNone then 0 else 2,pend:=j }) hb rfl hL hl
  ⟨_,World.putObj_heap_same hlt,by rw [hJ];cases j<;>rfl,hj,h2.size,h2.val,h2.params,h2.assign,h2.body⟩ (fun _=>rfl)
 exact ⟨_,by rw [run_endRound J h1,hJ],.atom rfl,i1,i2⟩
end
section
variable {P:Program} {E:Env} {W:Nat→Prop} {lim:Nat} {σ:Sig} {H H':zH} {w:World} {ds:List Deferred} {ro:Option Nat}
theorem region_plain {C:CallS} (hC:CallOkS (Prg.mk P (Env.pure E)) C) {pf:FuncId→Bool} {id:Nat} {ops:Array Oper} {l:List zIn} (hl:ops.toList.mapM (trInsP P pf ops)=some l) {N:Nat} {fr:Nat→Value} {a:Act}
  (hs:State (Prg.mk P (Env.pure E)) ds W lim σ N fr H a w) {LL} (hx:dOpsS C N lim l fr H=some LL):(Code.region id ops false).wpIn (WF ro) 0 P (fun e a' w'=>∃r∈LL,RegPost (Prg.mk P (Env.pure E)) ds W lim σ N r.1 H r.2 w e a' w') a w:=by
 refine wpIn_region ?_
 rw [List.range_eq_range']
 exact plain_regionS hC W lim σ H w hl ops.size 0 fr H a w σ LL (fun r hr a w1 σ1 q1 q2 q3 q4 q5 q6=>⟨r,hr,rfl,σ1,q1,q2,q3,q4,q5,q6⟩) (by simp) hs (Stp.refl _ _) (Sig.le_refl _) (Grow.refl _ _) (fun j hj=>absurd rfl hj) (Nat.le_refl _) (by simpa using hx)
theorem Todo.start {ops:Array Oper} {ord:List Nat} (hm:∀i,i∈ord↔i<ops.size):Todo ops ord (Array.replicate ops.size false) ord:=by
 refine ⟨fun i=>?_,List.Sublist.refl _,by simp,fun i o ho hl=>?_⟩
 ·rw [hm]
  constructor
  ·intro hi
   refine ⟨hi, ?_⟩
   rw [Array.getD_eq_getD_getElem?,Array.getElem?_eq_getElem (by simpa using hi)]
   simp
  ·exact fun h=>h.1
 ·exfalso
  rw [Array.getD_eq_getD_getElem?,Array.getElem?_replicate] at hl
  split at hl<;>simp at hl
theorem region_drawn {C:CallF} (hC:CallOk (Prg.mk P (Env.pure E)) C) {pf:FuncId→Bool} (hm:P.follows .mixedOrders=true) {id:Nat} {ops:Array Oper} {n:Nat} {L:List zIn} (hl:trDrawn P pf ops=some (.drawn n L)) {N:Nat} {fr fr':Nat→Value} {a:Act}
  (hs:State (Prg.mk P (Env.pure E)) ds W lim σ N fr H a w) (hx:dOps C N lim (some H.length) L fr (H++List.replicate n .dead)=some (fr',H')):(Code.region id ops true).wpIn (WF ro) 0 P (fun e a' w'=>e=.normal∧∃σ',State (Prg.mk P (Env.pure E)) ds W lim σ' N fr' H' a' w'∧Stp W w w'∧Sig.le σ σ'∧(∀j,σ' j≠σ j→H.length≤j)) a w:=by
 refine wpIn_region_any hm ?_
 obtain ⟨ord,L0,pl,rfl⟩:=drawn_plan hl
 have hlen:ord.length=ops.size:=by
  have h1:ord.Perm (List.range ops.size):=(List.perm_ext_iff_of_nodup pl.nodup List.nodup_range).2 fun i=>by rw [pl.mem,List.mem_range]
  rw [h1.length_eq,List.length_range]
 have hs':State (Prg.mk P (Env.pure E)) ds W lim σ N fr (H++List.replicate n .dead) a w.drew:=⟨hs.fr,(hs.inv.pad n).drew,by have:=hs.lim;simp;omega⟩
 refine drawn_any hC pl fr' H' W lim hs.lim σ (H++List.replicate n .dead) w.drew (fun a w1 σ1 q1 q2 q3 q4 q5 q6=>⟨rfl,σ1,q1,Stp.drew.trans q2,q3,q5⟩) ops.size _ ord fr _ a w.drew σ hlen (Todo.start pl.mem) hs' (Stp.refl _ _) (Sig.le_refl _) (Grow.refl _ _)
  (fun j hj=>absurd rfl hj) (Nat.le_refl _) ⟨by simp,fun r hr b hb ha=>?_,fun r hr=>hs.inv.dom _ (by omega),fun r hr=>?_⟩ ?_
 ·rw [List.getElem?_append_right (by omega),List.getElem?_replicate] at hb
  split at hb
  ·cases hb;simp [alive] at ha
  ·cases hb
 ·obtain ⟨b,hb,hbr⟩:=List.mem_filterMap.1 hr
  have hbL:b<L0.length:=by rw [pl.len];exact (pl.mem b).1 hb
  exact pl.dest b _ r (by rw [List.getD_eq_getElem?_getD,List.getElem?_eq_getElem hbL];rfl) (made_dest hbr)
 ·exact hx
def Fin (P:Program) (md:Md) (b:Frame) (cs:List Frame) (m:Machine) (v':Value) (w':World):Prop:=
 match md with
 | .r _=>∃c cs',cs=c::cs'∧m=lone (c.finish v') cs' w'
 | _=>∃fr,m=lone fr cs w'∧fr.fn=b.fn∧fr.leaving P w' (.returned v')
def RunPost (P:Program) (pf:FuncId→Bool) (W:Nat→Prop) (lim:Nat) (σ:Sig) (md:Md) (v:Value) (H H':zH) (w:World) (b:Frame) (K:List Item) (cs:List Frame) (a:Act):Prop:=
 ∃m v' w' σ',Steps P (lone (b.atR a K) cs w) m∧Fin P md b cs m v' w'∧zVr σ' v v'∧Inv (Prg.mk P pf) W lim σ' H' w'∧Stp W w w'∧Sig.le σ σ'∧∀j,σ' j≠σ j→H.length≤j
theorem RunPost.step {pf:FuncId→Bool} {md:Md} {v:Value} {b:Frame} {K K1:List Item} {cs:List Frame} {a:Act} (h:step P (lone (b.atR a K) cs w)=.next (lone (b.atR a K1) cs w)) (k:RunPost P pf W lim σ md v H H' w b K1 cs a):RunPost P pf W lim σ md v H H' w b K cs a:=by
 obtain ⟨a',w',σ',fr',h1,h2⟩:=k
 exact ⟨a',w',σ',fr',Steps.head h h1,h2⟩
theorem RunPost.steps {pf:FuncId→Bool} {md:Md} {v:Value} {b:Frame} {K K1:List Item} {cs:List Frame} {a a1:Act} {w1:World} {σ1:Sig} {H1:zH} (h:Steps P (lone (b.atR a K) cs w) (lone (b.atR a1 K1) cs w1)) (hst:Stp W w w1) (hle:Sig.le σ σ1) (hd:∀j,σ1 j≠σ j→H.length≤j) (hH:H.length≤H1.length)
  (k:RunPost P pf W lim σ1 md v H1 H' w1 b K1 cs a1):RunPost P pf W lim σ md v H H' w b K cs a:=by
 obtain ⟨m,v',w',σ',h1,h2,h3,h4,h5,h6,h7⟩:=k
 refine ⟨m,v',w',σ',Steps.trans h h1,h2,h3,h4,hst.trans h5,Sig.le_trans hle h6,fun j hj=>?_⟩
 apply Classical.byContradiction
 intro hc
 have e1:σ1 j=σ j:=Classical.byContradiction fun e=>hc (hd j e)
 have:=h7 j (fun e=>hj (e.trans e1))
 omega
def zPs (P:Program) (pf:FuncId→Bool) (W:Nat→Prop) (lim:Nat) (σ:Sig) (md:Md) (R:List (Value×zH)) (H:zH) (w:World) (b:Frame) (K:List Item) (cs:List Frame) (a:Act):Prop:=
 ∃r∈R,RunPost P pf W lim σ md r.1 H r.2 w b K cs a
theorem zPs.step {pf:FuncId→Bool} {md:Md} {R:List (Value×zH)} {b:Frame} {K K1:List Item} {cs:List Frame} {a:Act} (h:step P (lone (b.atR a K) cs w)=.next (lone (b.atR a K1) cs w)) (k:zPs P pf W lim σ md R H w b K1 cs a):zPs P pf W lim σ md R H w b K cs a:=by
 obtain ⟨r,hr,k⟩:=k
 exact ⟨r,hr,k.step h⟩
theorem zPs.steps {pf:FuncId→Bool} {md:Md} {R R':List (Value×zH)} {b:Frame} {K K1:List Item} {cs:List Frame} {a a1:Act} {w1:World} {σ1:Sig} {H1:zH} (h:Steps P (lone (b.atR a K) cs w) (lone (b.atR a1 K1) cs w1)) (hst:Stp W w w1) (hle:Sig.le σ σ1) (hd:∀j,σ1 j≠σ j→H.length≤j) (hH:H.length≤H1.length)
  (k:zPs P pf W lim σ1 md R' H1 w1 b K1 cs a1) (hR:∀x∈R',x∈R):zPs P pf W lim σ md R H w b K cs a:=by
 obtain ⟨r,hr,k⟩:=k
 exact ⟨r,hR r hr,k.steps h hst hle hd hH⟩
def Cx (P:Program) (σ:Sig) (md:Md) (af:zAf) (b:Frame) (cs:List Frame):Prop:=
 b.kind=.normal∧match md with
 | .r i=>∃L c cs',b.roundOf=some L.blk∧σ i=some L∧cs=c::cs'
 | _=>b.roundOf=none∧∃fn,P.funcs[b.fn]? = some fn∧fn.results.toList.mapM (trRes P)=some af.results
theorem Cx.mono {σ τ:Sig} (hle:Sig.le σ τ) {md:Md} {af:zAf} {b:Frame} {cs:List Frame} (h:Cx P σ md af b cs):Cx P τ md af b cs:=by
 refine ⟨h.1, ?_⟩
 have h2:=h.2
 cases md with
 | r i=>obtain ⟨L,c,cs',g1,g2,g3⟩:=h2;exact ⟨L,c,cs',g1,hle _ _ g2,g3⟩
 | _=>exact h2
theorem Inv.enterLoop (h:Inv (Prg.mk P (Env.pure E)) W lim σ H w) {x:LoopB} {lp:Loop} (hx:LoopRel (Prg.mk P (Env.pure E)) σ x lp) :
  ∃σ',Inv (Prg.mk P (Env.pure E)) W lim σ' (H++[.dfr,.loop x]) ((w.alloc (.deferred (some []))).alloc (.loop lp))∧Sig.le σ σ'∧σ' H.length=some ⟨w.heap.size,0,0⟩∧σ' (H.length+1)=some ⟨w.heap.size+1,0,0⟩∧∀j,σ' j≠σ j→H.length≤j:=by
 have step1:∀{H:zH} {w:World} {σ:Sig} (h:Inv (Prg.mk P (Env.pure E)) W lim σ H w) {b:Blk} {o:Obj},owned b=true→BlkRel (Prg.mk P (Env.pure E)) (σ.put H.length ⟨w.heap.size,0,0⟩) (w.alloc o) ⟨w.heap.size,0,0⟩ b→Inv (Prg.mk P (Env.pure E)) W lim (σ.put H.length ⟨w.heap.size,0,0⟩) (H++[b]) (w.alloc o):=by
  intro H w σ h b o ho hb
  have hw:Inv (Prg.mk P (Env.pure E)) W lim σ H (w.alloc o):=h.world (by simp) fun b hb=>by rw [heap_push,Array.getElem?_push];rw [if_neg (by omega)]
  obtain ⟨g1,g2,g3,g4,g5,g6,g7⟩:=place_get (dest:=none) (b:=b) (H:=H) (show place none b H=(H.length,H++[b]) from rfl) (fun d e=>by cases e)
  refine hw.adopt g1 g2 g4 (h.dom _ (Nat.le_refl _)) hb ho (h.fresh _ (Nat.le_refl _)) fun j bj Lj hji hbj ha hLj e=>?_
  obtain ⟨L',h1,h2⟩:=h.blk j bj hbj ha
  rw [hLj] at h1;cases h1
  have:=h2.lt ha
  simp at e
  omega
 have i1:=step1 h (b:=.dfr) (o:=.deferred (some [])) rfl (by show (w.alloc _).heap[_]? = _;simp [heap_push])
 have hle1:Sig.le σ (σ.put H.length ⟨w.heap.size,0,0⟩):=Sig.le_put (h.dom _ (Nat.le_refl _))
 have hd1:=i1.dom (H.length+1) (by simp)
 have hle2:=Sig.le_put (L:=⟨w.heap.size+1,0,0⟩) hd1
 have i2:=step1 i1 (b:=.loop x) (o:=.loop lp) rfl (by
  refine ⟨lp,World.alloc_heap_new _ _, ?_⟩
  simp only [List.length_append,List.length_cons,List.length_nil,World.size_alloc] at hle2⊢
  exact (hx.mono hle1).mono hle2)
 simp only [List.length_append,List.length_cons,List.length_nil,World.size_alloc,List.append_assoc,List.cons_append,List.nil_append] at i2
 refine ⟨_,i2,Sig.le_trans hle1 hle2, ?_,Sig.put_same,fun j hj=>?_⟩
 ·simp [Sig.put]
 ·apply Classical.byContradiction
  intro hc
  refine hj ?_
  simp only [Sig.put]
  rw [if_neg (by omega),if_neg (by omega)]
theorem run_sound (hE:EnvOk P E) (n:Nat) (hC:∀m,m<n→CallOkS (Prg.mk P (Env.pure E)) (aCall E m)):∀(m:Nat),m≤n→∀{md:Md} {ms:List Nat} {ds:List Deferred} {af:zAf} {k:List zAi} {fr:Nat→Value} {σ:Sig} {H:zH} {w:World} {R:List (Value×zH)} {K:List Item} {a:Act} (b:Frame) (cs:List Frame),
   aRun E m af lim k fr H=some R→KRel P E.pure md ms k K→(md=.n→ms=[])→DsRel lim σ ms.reverse ds→Cx P σ md af b cs→(∀i,md=.r i→lim≤i)→State (Prg.mk P (Env.pure E)) ds W lim σ af.ntmps fr H a w→
   zPs P E.pure W lim σ md R H w b K cs a:=by
 intro m
 induction m using Nat.strongRecOn with
 | ind m ih=>
 intro hm md ms ds af k fr σ H w R K a b cs hx hK hms hds hcx hri hs
 cases m with
 | zero=>simp [aRun] at hx
 | succ m=>
 have ih':∀{k:List zAi} {K:List Item},aRun E m af lim k fr H=some R→KRel P E.pure md ms k K→zPs P E.pure W lim σ md R H w b K cs a:=fun hx hK=>ih m (by omega) (by omega) b cs hx hK hms hds hcx hri hs
 have finN:md=.n→∀{todo:List Item},step P (lone (b.atR a K) cs w)=.next (lone { b.atR a todo with mode:=.returning } cs w)→one ((result fr H af.results).map (·,H))=some R→zPs P E.pure W lim σ md R H w b K cs a:=fun hmd todo hst h=>by
  subst hmd
  rw [hms rfl] at hds
  cases hds
  obtain ⟨hk,hro,fn,hfn,hrs⟩:=hcx
  obtain ⟨x,h',rfl⟩:=one_some h
  simp only [Option.map_eq_some_iff] at h'
  obtain ⟨v,h1,rfl⟩:=h'
  obtain ⟨v',h7,h8⟩:=results_sound hs hrs h1
  exact ⟨_,List.mem_singleton.2 rfl,_,v',w,σ,.one hst,⟨_,rfl,rfl,rfl,hs.fr.defers,hk,fn,hfn,h7⟩,h8,hs.inv,Stp.refl _ _,Sig.le_refl _,fun j hj=>absurd rfl hj⟩
 have finM:md=.m→marks k=marks k→∀{todo:List Item} {ks:List zAi},marks ks=ms.reverse→step P (lone (b.atR a K) cs w)=.next (lone { b.atR a todo with mode:=.returning } cs w)→
   (match shut lim (marks ks) H with | some H'=>one ((result fr H' af.results).map (·,H')) | none=>none)=some R→zPs P E.pure W lim σ md R H w b K cs a:=fun hmd _ todo ks hmk hst h=>by
  subst hmd
  obtain ⟨hk,hro,fn,hfn,hrs⟩:=hcx
  split at h
  case h_2=>cases h
  rename_i H1 hsh
  rw [hmk] at hsh
  obtain ⟨w1,k1,k2,k3,k4⟩:=shut_steps (b:=b) (a:=a) (todo:=todo) (cs:=cs) _ ds hds hs.inv hsh
  obtain ⟨x,h',rfl⟩:=one_some h
  simp only [Option.map_eq_some_iff] at h'
  obtain ⟨v,h1,rfl⟩:=h'
  have hs1:State (Prg.mk P (Env.pure E)) ds W lim σ af.ntmps fr H1 a w1:=⟨hs.fr,k2,by rw [k4];exact hs.lim⟩
  obtain ⟨v',h7,h8⟩:=results_sound hs1 hrs h1
  have ea:{ a with defers:=ds }=a:=by rw [←hs.fr.defers]
  rw [ea] at k1
  exact ⟨_,List.mem_singleton.2 rfl,_,v',w1,σ,Steps.head hst k1,⟨_,rfl,rfl,rfl,rfl,hk,fn,hfn,h7⟩,h8,k2,k3,Sig.le_refl _,fun j hj=>absurd rfl hj⟩
 have finR:∀{i:Nat} {j:Option zAc} {J:Option Code},md=.r i→(match j with | none=>J=none | some c=>∃C,J=some C∧trCodeM P E.pure C=some c)→
   (∀{L c cs' v w'},b.roundOf=some L→b.kind=.normal→cs=c::cs'→(Instr.endRound L J).run P w=.ok v w'→step P (lone (b.atR a K) (c::cs') w)=.next (lone (c.finish v) cs' w'))→
   one (endRound i j H)=some R→zPs P E.pure W lim σ md R H w b K cs a:=fun {i j J} hmd hj hst h=>by
  subst hmd
  obtain ⟨hk,L,c,cs',hro,hL,rfl⟩:=hcx
  obtain ⟨⟨v,H'⟩,h',rfl⟩:=one_some h
  obtain ⟨w1,h1,h2,h3,h4⟩:=endRound_sound hs.inv hL (hri i rfl) hj h'
  exact ⟨_,List.mem_singleton.2 rfl,_,v,w1,σ,.one (hst hro hk rfl h1),⟨c,cs',rfl,rfl⟩,h2,h3,h4,Sig.le_refl _,fun j hj=>absurd rfl hj⟩
 rw [aRun.eq_def] at hx
 simp only at hx
 cases hK with
 | nilN=>exact finN rfl (stepR_end hcx.2.1) hx
 | nilM=>exact finM rfl rfl (marks_map ms) (stepR_end hcx.2.1) hx
 | @nilR i=>
   simp only at hx
   split at hx
   case isFalse=>cases hx
   exact finR rfl (J:=none) (by rfl) (fun {L c cs' v w'} h1 h2 h3 h4=>stepR_round_end h1 h2 h4) hx
 | inBlock t=>exact zPs.step stepR_inBlock (ih' hx t)
 | inLoop h t=>exact zPs.step stepR_inLoop (ih' hx (.code h (.inLoop h t)))
 | @begin i ms k K t=>
   simp only at hx
   split at hx
   case h_2=>cases hx
   rename_i x hb
   split at hx
   case isFalse=>cases hx
   rename_i hc
   obtain ⟨hk,L,c,cs',hro,hL,rfl⟩:=hcx
   obtain ⟨lp,h1,h2⟩:=hs.inv.loop hb hL
   have hlt:L.blk<w.heap.size:=(Array.getElem?_eq_some_iff.1 h1).1
   obtain ⟨i1,i2⟩:=hs.inv.putLoop (o:=.loop { lp with state:=.busy }) (b':=.loop { x with st:=1 }) hb rfl hL hc.2
    ⟨_,World.putObj_heap_same hlt,rfl,h2.pend,h2.size,h2.val,h2.params,h2.assign,h2.body⟩ (fun _=>rfl)
   have hst:lp.state=.ready:=by rw [h2.st,hc.1];rfl
   refine zPs.steps (.one (stepR_beginRound hro (run_beginRound h1 hst))) i2 (Sig.le_refl _) (fun j hj=>absurd rfl hj) (by simp) (ih m (by omega) (by omega) b _ hx t hms hds ⟨hk,L,c,cs',hro,hL,rfl⟩ hri ⟨hs.fr,i1,by have:=hs.lim;simpa using this⟩) (fun x hx=>hx)
 | @code md ms c C k K h t=>
   cases trX_cases h with
   | skip=>exact zPs.step stepR_skip (ih' hx t)
   | @plain _ id ops l hl=>
     simp only at hx
     obtain ⟨LL,h1,h2⟩:=ops_splitS E l m af lim k fr H _ hx
     have hCm:=hC (m-1) (by omega)
     obtain ⟨e,a1,w1,hq,harr⟩:=region_plain (ro:=b.roundOf) hCm (id:=id) hl hs h1 b K cs rfl trivial (room_wide _)
     obtain ⟨r,hr,rfl,σ1,q1,q2,q3,q4,q5,q6⟩:=hq
     obtain ⟨m1,R',g1,g2,g3⟩:=h2 r hr
     exact zPs.steps (StepsIn.steps harr) q2 q3 q5 q6 (ih m1 (by omega) (by omega) b cs g2 t hms (hds.mono q3) (hcx.mono q3) hri q1) g3
   | @drawn _ id ops nn L hdr=>
     simp only at hx
     obtain ⟨m1,fr1,H1,h1,h2,h3⟩:=ops_split E L m af lim H.length k fr _ _ hx
     have hCm:=hC (m-1) (by omega)
     obtain ⟨e,a1,w1,hq,harr⟩:=region_drawn (ro:=b.roundOf) hCm.det hE.mixed (id:=id) hdr hs h2 b K cs rfl trivial (room_wide _)
     obtain ⟨rfl,σ1,q1,q2,q3,q5⟩:=hq
     have hlen:H.length≤H1.length:=by
      have key:∀(l:List zIn) (fr fr1:Nat→Value) (H0 H1:zH),lim≤H0.length→dOps (det (aCall E (m-1))) af.ntmps lim (some H.length) l fr H0=some (fr1,H1)→H0.length≤H1.length:=by
       intro l
       induction l with
       | nil=>intro fr fr1 H0 H1 _ hx;simp [dOps] at hx;rw [hx.2];exact Nat.le_refl _
       | cons i l ih=>
         intro fr fr1 H0 H1 hl hx
         obtain ⟨f2,H2,g1,g2⟩:=dOps_cons hx
         obtain ⟨g3,_⟩:=insOp_grow hCm.grow.det g1 (fun b e=>by cases e;exact hs.lim) hl
         have:=ih _ _ _ _ (by omega) g2
         omega
      have:=key L fr fr1 _ H1 (by have:=hs.lim;simp;omega) h2
      simp at this
      omega
     exact zPs.steps (StepsIn.steps harr) q2 q3 q5 hlen (ih m1 (by omega) (by omega) b cs h3 t hms (hds.mono q3) (hcx.mono q3) hri q1) (fun x hx=>hx)
   | seq hx' hy'=>exact zPs.step stepR_seq (ih' hx (.code hx' (.code hy' t)))
   | @cond _ o x y x' y' hok hx' hy'=>
     have hev:=hs.fr.ev hok
     simp only at hx
     cases he:ev fr o<;>rw [he] at hx hev<;>(try (cases hx;done))
     rename_i t'
     have hb:=hev.bool_left
     cases t' with
     | true=>exact zPs.step (stepR_cond hb) (ih' hx (.code hx' t))
     | false=>exact zPs.step (stepR_cond hb) (ih' hx (.code hy' t))
   | block hx'=>exact zPs.step stepR_block (ih' hx (.code hx' (.inBlock t)))
   | loop hx'=>exact zPs.step stepR_loop (ih' hx (.code hx' (.inLoop hx' t)))
   | exit hmd=>
     simp only at hx
     split at hx
     case h_2=>cases hx
     rename_i k' hk'
     obtain ⟨K',h1,h2⟩:=t.exit hk'
     exact zPs.step (stepR_exit h1) (ih' hx h2)
   | @exitR i id=>
     simp only at hx
     split at hx
     ·rename_i k' hk'
      obtain ⟨K',h1,h2⟩:=t.exit hk'
      exact zPs.step (stepR_exit h1) (ih' hx h2)
     ·rename_i hk'
      rw [t.roundOf] at hx
      simp only at hx
      split at hx
      case isFalse=>cases hx
      exact finR rfl (j:=some (.exit id)) (J:=some (.exit id)) ⟨_,rfl,rfl⟩ (fun {L c cs' v w'} h1 h2 h3 h4=>stepR_round_exit h1 h2 (t.noExit hk') h4) hx
   | ret=>exact finN rfl (stepR_ret hcx.2.1) hx
   | retM=>exact finM rfl rfl t.marks (stepR_ret hcx.2.1) hx
   | retR=>
     simp only at hx
     rw [t.roundOf] at hx
     simp only at hx
     split at hx
     case isFalse=>cases hx
     exact finR rfl (j:=some .retM) (J:=some .ret) ⟨_,rfl,rfl⟩ (fun {L c cs' v w'} h1 h2 h3 h4=>stepR_round_ret h1 h2 h4) hx
   | @rangeF f ps x y x' y' hok hx' hy'=>
     have hCm:=hC m (by omega)
     have hev:=hs.fr.ev hok
     simp only at hx
     split at hx
     case h_2=>cases hx
     rename_i g as hcl
     unfold zCa at hcl
     split at hcl
     case h_2=>simp at hcl
     case h_3=>cases hcl
     rename_i g' fi ca hf
     simp only [Option.some.injEq,Prod.mk.injEq,Sum.inl.injEq] at hcl
     obtain ⟨rfl,rfl⟩:=hcl
     rw [hf] at hev
     obtain ⟨fi',ca',hf',hfi,hca⟩:=hev.func_left
     split at hx
     case h_2=>cases hx
     rename_i L2 hcall
     obtain ⟨hk,hro,fn0,hfn0,hrs0⟩:=hcx
     have hxl:LoopRel (Prg.mk P (Env.pure E)) σ ⟨0,none,fr,af.ntmps,ps.toList,x',y'⟩ { state:=.ready,pending:=none,fn:=b.fn,tmps:=a.tmps,params:=ps,assign:=x,body:=y,defers:=w.heap.size }:=
      ⟨rfl,rfl,hs.fr.size,hs.fr.val,rfl,hx',hy'⟩
     obtain ⟨σ1,i1,hle1,hl1,hl2,hch1⟩:=hs.inv.enterLoop hxl
     obtain ⟨fn,g1,g2,g3⟩:=hCm.fn _ _ _ _ _ _ hcall
     have hargs:zLr σ1 (fi.toList++[.func (.yield (H.length+1)) #[] #[]]++ca.toList) (fi'.toList++[.func (.yield (w.heap.size+1)) #[] #[]]++ca'.toList):=
      ((hfi.mono hle1).append (zLr.cons (.yld hl2) zLr.nil)).append (hca.mono hle1)
     have hcalls:=hCm.calls _ _ _ _ _ _ hcall (by have:=hs.lim;simp;omega) W σ1 _ _ i1 hargs
     have hkc:∀v,a.eval (.const v)=v:=fun _=>rfl
     have hbn:fn.body≠none:=fun h=>by rw [h] at g2;cases g2
     have h3':¬(fn.name= "runtime.NumGoroutine"):=by simpa using g3
     have ea:(fi'.toList++[Value.func (.yield (w.heap.size+1)) #[] #[]]++ca'.toList).toArray=fi'++#[Value.func (.yield (w.heap.size+1)) #[] #[]]++ca':=by apply Array.ext';simp
     rw [ea] at hcalls
     have henter:=stepR_rangeFunc (P:=P) (b:=b) (a:=a) (k:=K) (cs:=cs) (w:=w) (g:=f) (ps:=ps) (assign:=x) (body:=y) (f:=g') (args:=fi'++#[Value.func (.yield (w.heap.size+1)) #[] #[]]++ca')
      (show (Instr.enterLoop b.fn a.tmps ps x y b.roundOf).run P w=.ok (w.heap.size+1,[{ target:=.collected w.heap.size,args:=#[] }])
       ((w.alloc (.deferred (some []))).alloc (.loop { state:=.ready,pending:=none,fn:=b.fn,tmps:=a.tmps,params:=ps,assign:=x,body:=y,defers:=w.heap.size })) by rw [hro];exact run_enterLoop_outer _ _ _ _ _)
      (show (resolve a.eval (rangeCall f (w.heap.size+1)) 0).run P _=.ok { target:=.fn (.func g') ca',args:=fi'++#[Value.func (.yield (w.heap.size+1)) #[] #[]] } _ by
       simp [resolve,Deferred.ofValue,hf',hkc];rfl)
      (show (invoke (.fn (.func g') ca') (fi'++#[Value.func (.yield (w.heap.size+1)) #[] #[]])).run P _=.ok (.enter g' _) _ by
       simp [invoke,callFunc,g1,h3',hbn];rfl)
     obtain ⟨e,w3,fr3,⟨⟨v2,H2⟩,hr2,v3,σ3,rfl,q1,q2,q3,q4,q5⟩,hcome,hfr3,hlv⟩:=hcalls (b.atR { a with defers:=[{ target:=.collected w.heap.size,args:=#[] }]++a.defers } (.inRangeFunc (w.heap.size+1)::K)::cs)
     obtain ⟨R',hx,hsub⟩:=bindL_fwd hx _ hr2
     simp only at hx q2
     split at hx
     case h_2=>cases hx
     rename_i xx hb
     split at hx
     ·cases hx
     rename_i hst
     have hL3:σ3 (H.length+1)=some ⟨w.heap.size+1,0,0⟩:=q4 _ _ hl2
     obtain ⟨lp,h1,h2⟩:=q2.loop hb hL3
     have hnb:lp.state≠.busy:=fun e=>by
      rw [h2.st] at e
      unfold stOf at e
      split at e<;>first | (cases e;done) | skip
      rename_i h;exact hst h
     have hlimx:lim≤H.length+1:=by have:=hs.lim;omega
     obtain ⟨i3,s3⟩:=q2.putLoop (o:=.loop { lp with state:=.exhausted }) (b':=.dead) hb rfl hL3 hlimx trivial (fun h=>by simp [alive] at h)
     have hall:Steps P (lone (b.atR a (.code (.rangeFunc f ps x y)::K)) cs w) (lone (b.atR { a with defers:=[{ target:=.collected w.heap.size,args:=#[] }]++a.defers } ((lp.pending.map Item.code).toList++K)) cs (w3.putObj (w.heap.size+1) (.loop { lp with state:=.exhausted }))):=by
      refine Steps.head henter (Steps.trans hcome (Steps.head (step_leave_returned hlv) ?_))
      rw [finish_atR_inRangeFunc]
      exact .one (stepR_endRangeFunc (run_endLoop h1 hnb))
     have hst1:Stp W w ((w.alloc (.deferred (some []))).alloc (.loop { state:=.ready,pending:=none,fn:=b.fn,tmps:=a.tmps,params:=ps,assign:=x,body:=y,defers:=w.heap.size })):=
      (Stp.alloc hs.inv.fresh _).trans (Stp.alloc (fun k hk=>hs.inv.fresh k (by simp at hk;omega)) _)
     have hlen2:H.length+2≤H2.length:=by
      have:=(hCm.grow _ _ _ _ _ _ hcall (by have:=hs.lim;simp;omega) _ hr2).1
      simpa using this
     have hle3:Sig.le σ σ3:=Sig.le_trans hle1 q4
     have hpend:=h2.pend
     refine zPs.steps hall (hst1.trans (q3.trans s3)) hle3 (fun j hj=>?_) (by simp;omega) (ih m (by omega) (by omega) (ms:=ms++[H.length]) (ds:={ target:=.collected w.heap.size,args:=#[] }::ds) b cs hx ?_ (fun h=>by cases h) ?_ ⟨hk,hro,fn0,hfn0,hrs0⟩ (fun i h=>by cases h) ⟨?_,i3,by have:=hs.lim;simp;omega⟩) hsub
     ·apply Classical.byContradiction
      intro hc
      have e1:σ1 j=σ j:=Classical.byContradiction fun e=>hc (hch1 j e)
      have:=q5 j (fun e=>hj (e.trans e1))
      simp at this
      omega
     ·have tm:=t.addMark H.length
      cases hp:xx.pend with
      | none=>rw [hp] at hpend;simp only at hpend;rw [hpend];simpa using tm
      | some c=>
        rw [hp] at hpend
        obtain ⟨C,hC1,hC2⟩:=hpend
        rw [hC1]
        exact .code (md:=.m) hC2 tm
     ·rw [List.reverse_append]
      exact ⟨⟨w.heap.size,0,0⟩,ds,hs.lim,q4 _ _ hl1,rfl,hds.mono hle3⟩
     ·exact ⟨hs.fr.size,by simp [hs.fr.defers],fun t=>(hs.fr.val t).mono hle3⟩
theorem frame0_rel {as as':List Value} (h:zLr σ as as') (fn:Func):FrRel [] σ fn.ntmps (zFr as) { tmps:=as'.toArray++Array.replicate (fn.ntmps-as'.toArray.size) undef,defers:=[] }:=by
 refine ⟨by simp;omega,rfl,fun t=>?_⟩
 unfold zFr
 rw [Array.getD_eq_getD_getElem?,List.getD_eq_getElem?_getD]
 by_cases ht:t<as.length
 ·have ht':t<as'.length:=by rw [←h.1];exact ht
  rw [Array.getElem?_append_left (by simpa using ht'),List.getElem?_eq_getElem ht]
  simp only [List.getElem?_toArray,List.getElem?_eq_getElem ht',Option.getD_some]
  exact h.2 t _ _ (List.getElem?_eq_getElem ht) (List.getElem?_eq_getElem ht')
 ·have ht':as'.toArray.size≤t:=by simp [←h.1];omega
  rw [List.getElem?_eq_none (by omega),Array.getElem?_append_right ht',Array.getElem?_replicate]
  have hu:zVr σ undef undef:=.atom rfl
  split<;>exact hu
theorem trFunc_inv {pf:FuncId→Bool} {g:FuncId} {af:zAf} (ht:zTf P pf g=some af):∃fn body md c rs,P.funcs[g]? = some fn∧fn.body=some body∧trX P pf md body=some c∧fn.results.toList.mapM (trRes P)=some rs∧(fn.name == "runtime.NumGoroutine")=false∧
  ((md=.n∧af={ ntmps:=fn.ntmps,results:=rs,body:=c })∨(md=.m∧af={ ntmps:=fn.ntmps,results:=rs,body:=.seq c .retM })):=by
 unfold zTf at ht
 split at ht
 ·rename_i a ha
  cases ht
  unfold trFuncN at ha
  obtain ⟨fn,hfn,ht⟩:=zOb ha
  obtain ⟨body,hb,ht⟩:=zOb ht
  obtain ⟨c,hc,ht⟩:=zOb ht
  obtain ⟨rs,hrs,ht⟩:=zOb ht
  split at ht
  ·cases ht
  ·rename_i hn
   cases ht
   exact ⟨fn,body,.n,c,rs,hfn,hb,hc,hrs,by simpa using hn,.inl ⟨rfl,rfl⟩⟩
 ·unfold trFuncM at ht
  obtain ⟨fn,hfn,ht⟩:=zOb ht
  obtain ⟨body,hb,ht⟩:=zOb ht
  obtain ⟨c,hc,ht⟩:=zOb ht
  obtain ⟨rs,hrs,ht⟩:=zOb ht
  split at ht
  ·cases ht
  ·rename_i hn
   cases ht
   exact ⟨fn,body,.m,c,rs,hfn,hb,hc,hrs,by simpa using hn,.inr ⟨rfl,rfl⟩⟩
theorem call_sound (hE:EnvOk P E) (n:Nat) (hC:∀m,m<n→CallOkS (Prg.mk P (Env.pure E)) (aCall E m)) {g:FuncId} {af:zAf} (ht:zTf P E.pure g=some af) {as as':List Value} {R:List (Value×zH)} (hx:aRun E n af lim [.code af.body] (zFr as) H=some R) (hl:lim≤H.length)
  (hinv:Inv (Prg.mk P (Env.pure E)) W lim σ H w) (ha:zLr σ as as'):Calls P g as'.toArray w fun e w'=>∃r∈R,CallPost (Prg.mk P (Env.pure E)) W lim σ H r.1 r.2 w e w':=by
 obtain ⟨fn,body,md,c,rs,hfn,hb,hc,hrs,hn,hmd⟩:=trFunc_inv ht
 intro cs
 let b:Frame:={ (default:Frame) with fn:=g,kind:=.normal,roundOf:=none }
 have henter:Frame.enter P g as'.toArray .normal=b.atR { tmps:=as'.toArray++Array.replicate (fn.ntmps-as'.toArray.size) undef,defers:=[] } [.code body]:=by
  simp [Frame.enter,Frame.atR,hfn,hb,b]
 have hst:State (Prg.mk P (Env.pure E)) [] W lim σ fn.ntmps (zFr as) H { tmps:=as'.toArray++Array.replicate (fn.ntmps-as'.toArray.size) undef,defers:=[] } w:=⟨frame0_rel ha fn,hinv,hl⟩
 rcases hmd with ⟨rfl,rfl⟩ | ⟨rfl,rfl⟩
 ·obtain ⟨r,hr,m,v',w',σ',h1,⟨fr,rfl,h2,h3⟩,h4,h5,h6,h7,h8⟩:=run_sound (W:=W) hE n hC n (Nat.le_refl _) (ms:=[]) b cs hx (.code hc .nilN) (fun _=>rfl) rfl ⟨rfl,rfl,fn,hfn,hrs⟩ (fun i h=>by cases h) hst
  rw [←henter] at h1
  exact ⟨.returned v',w',fr,⟨r,hr,v',σ',rfl,h4,h5,h6,h7,h8⟩,h1,h2,h3⟩
 ·cases n with
  | zero=>simp [aRun] at hx
  | succ n=>
  rw [aRun.eq_def] at hx
  simp only at hx
  obtain ⟨r,hr,m,v',w',σ',h1,⟨fr,rfl,h2,h3⟩,h4,h5,h6,h7,h8⟩:=run_sound (W:=W) hE (n+1) hC n (by omega) (ms:=[]) b cs hx (.code hc .nilM) (fun _=>rfl) rfl ⟨rfl,rfl,fn,hfn,hrs⟩ (fun i h=>by cases h) hst
  rw [←henter] at h1
  exact ⟨.returned v',w',fr,⟨r,hr,v',σ',rfl,h4,h5,h6,h7,h8⟩,h1,h2,h3⟩
theorem roundTmps_rel:∀(ps:List Nat) (as as':List Value) (fr:Nat→Value) (ts:Array Value) (N:Nat),as.length=ps.length→(ps.all (·<N))=true→N≤ts.size→zLr σ as as'→(∀t,zVr σ (fr t) (ts.getD t undef))→
  N≤((ps.zip as').foldl (fun (tmps:Array Value) (x:Nat×Value)=>tmps.setIfInBounds x.1 x.2) ts).size∧∀t,zVr σ (setParams fr ps as t) (((ps.zip as').foldl (fun (tmps:Array Value) (x:Nat×Value)=>tmps.setIfInBounds x.1 x.2) ts).getD t undef)
 | [],as,as',fr,ts,N,h,_,hN,ha,hv=>by
   cases as with
   | nil=>exact ⟨by simpa using hN,by simpa [setParams] using hv⟩
   | cons=>simp at h
 | p::ps,as,as',fr,ts,N,h,hp,hN,ha,hv=>by
   cases as with
   | nil=>simp at h
   | cons x xs=>
     cases as' with
     | nil=>have:=ha.1;simp at this
     | cons y ys=>
       simp only [List.all_cons,Bool.and_eq_true,decide_eq_true_eq] at hp
       simp only [List.zip_cons_cons,List.foldl_cons,setParams]
       refine roundTmps_rel ps xs ys _ _ N (by simpa using h) hp.2 (by simpa using hN) ha.tail fun t=>?_
       rw [Array.getD_eq_getD_getElem?]
       by_cases e:t=p
       ·subst e
        rw [if_pos rfl,Array.getElem?_setIfInBounds_self_of_lt (by omega)]
        exact ha.head
       ·rw [if_neg e,Array.getElem?_setIfInBounds_ne (fun h=>e h.symm),←Array.getD_eq_getD_getElem?]
        exact hv t
theorem round_sound (hE:EnvOk P E) (n:Nat) (hC:∀m,m<n→CallOkS (Prg.mk P (Env.pure E)) (aCall E m)) {i:Nat} {x:LoopB} (hb:zG H i=.loop x) (hli:lim≤i) {as as':List Value} (hlen:as.length=x.params.length) (hpar:(x.params.all (·<x.N))=true) {R:List (Value×zH)}
  (hx:aRun E n ⟨x.N,[],.skip⟩ lim [.code x.assign,.begin i,.code x.body,.round i] (setParams x.fr x.params as) H=some R) (hl:lim≤H.length)
  (hinv:Inv (Prg.mk P (Env.pure E)) W lim σ H w) (ha:zLr σ as as') {L:Loc} (hL:σ i=some L) :
  ∃r,w.heap[L.blk]? = some (.loop r)∧as'.toArray.size=r.params.size∧RoundIn Fence.wide 0 P L.blk r.fn (roundTmps r as'.toArray) r.assign r.body w fun e w'=>∃x∈R,CallPost (Prg.mk P (Env.pure E)) W lim σ H x.1 x.2 w e w':=by
 obtain ⟨r,h1,h2⟩:=hinv.loop hb hL
 have hsz:as'.toArray.size=r.params.size:=by
  have e:=ha.1
  rw [←Array.length_toList (xs:=r.params),h2.params,List.size_toArray];omega
 refine ⟨r,h1,hsz,trivial,fun c cs _=>?_⟩
 let b:Frame:={ (default:Frame) with fn:=r.fn,kind:=.normal,roundOf:=some L.blk }
 have hb0:Frame.round L.blk r.fn (roundTmps r as'.toArray) r.assign r.body .normal=b.atR { tmps:=roundTmps r as'.toArray,defers:=[] } [.code r.assign,.beginRound,.code r.body]:=by
  simp [Frame.round,Frame.atR,b]
 have hrt:roundTmps r as'.toArray=(x.params.zip as').foldl (fun (tmps:Array Value) (x:Nat×Value)=>tmps.setIfInBounds x.1 x.2) r.tmps:=by
  unfold roundTmps
  rw [←h2.params,←Array.foldl_toList]
  simp
 obtain ⟨g1,g2⟩:=roundTmps_rel (σ:=σ) x.params as as' x.fr r.tmps x.N hlen hpar h2.size ha h2.val
 rw [←hrt] at g1 g2
 obtain ⟨x0,hx0,m,v',w',σ',k1,⟨c',cs',e1,rfl⟩,k4,k5,k6,k7,k8⟩:=run_sound (W:=W) hE n hC n (Nat.le_refl _) (md:=.r i) (ms:=[]) (ds:=[]) (af:=⟨x.N,[],.skip⟩) (a:={ tmps:=roundTmps r as'.toArray,defers:=[] }) b (c::cs) hx (.code (md:=.r i) h2.assign (.begin (.code (md:=.r i) h2.body .nilR))) (fun h=>by cases h) rfl
  ⟨rfl,L,c,cs,rfl,hL,rfl⟩ (fun j h=>by cases h;exact hli) ⟨⟨g1,rfl,g2⟩,hinv,hl⟩
 cases e1
 rw [←hb0] at k1
 exact ⟨.returned v',w',⟨x0,hx0,v',σ',rfl,k4,k5,k6,k7,k8⟩,comesIn_wide.2 k1⟩
theorem callOkS (hE:EnvOk P E):∀n,CallOkS (Prg.mk P (Env.pure E)) (aCall E n):=by
 intro n
 induction n using Nat.strongRecOn with
 | ind n ih=>
 have hgrow:CallGrowS (aCall E n):=callWith_grow fun af lim k fr H L hk hx hl=>aRun_grow E n af lim _ _ _ _ (fun x hx b l e=>absurd e (hk x hx b l)) hx hl
 have inv:∀{mp lim g as H L},aCall E n mp lim (.inl g) as H=some L→
   (∃v,E.orc g as=some v∧L=[(v,H)]∧as.all atom=true∧flat 4 v=true)∨
   (∃r,E.eff g as H=some r∧L=[(r.1,effH H r.2)]∧mp=false∧updOk lim H r.2.2=true)∨
   (∃af,E.tr g=some af∧((∃v,E.pure g=true∧L=[(v,H)]∧olds H.length 4 v=true∧∃L0,aRun E n af H.length [.code af.body] (zFr as) H=some L0∧∀r∈L0,r.1=v)∨(mp=false∧aRun E n af lim [.code af.body] (zFr as) H=some L))):=by
  intro mp lim g as H L h
  unfold aCall zCw at h
  simp only at h
  split at h
  ·rename_i u hu
   split at h
   ·rename_i hf
    cases h
    simp only [Bool.and_eq_true] at hf
    exact .inl ⟨u,hu,rfl,hf.1,hf.2⟩
   ·cases h
  split at h
  ·rename_i r hr
   split at h
   ·cases h
   ·rename_i hm
    cases h
    simp only [Bool.or_eq_true,Bool.not_eq_true',not_or,Bool.not_eq_false,Bool.not_eq_true] at hm
    exact .inr (.inl ⟨r,hr,rfl,hm⟩)
  ·split at h
   ·cases h
   ·rename_i af haf
    right;right
    refine ⟨af,haf, ?_⟩
    split at h
    ·rename_i hp
     split at h
     ·rename_i u H1 l h1
      split at h
      ·rename_i hall
       split at h
       ·rename_i hf
        cases h
        refine .inl ⟨u,hp,rfl,hf,_,h1,fun r hr=>?_⟩
        rcases List.mem_cons.1 hr with rfl | hr
        ·rfl
        ·exact (valEq_eq _ _ (List.all_eq_true.1 hall r hr)).symm
       ·cases h
      ·cases h
     ·cases h
    ·split at h
     ·cases h
     ·rename_i hmp
      exact .inr ⟨by simpa using hmp,h⟩
 have trOk:∀{g af},E.tr g=some af→∃fn,P.funcs[g]? = some fn∧fn.body.isSome=true∧(fn.name == "runtime.NumGoroutine")=false:=by
  intro g af h
  obtain ⟨fn,body,md,c,rs,hfn,hb,hc,hrs,hn,_⟩:=trFunc_inv (hE.tr g af h)
  exact ⟨fn,hfn,by rw [hb];rfl,hn⟩
 have invR:∀{mp lim i as H L},aCall E n mp lim (.inr i) as H=some L→mp=false∧∃x,zG H i=.loop x∧lim≤i∧as.length=x.params.length∧(x.params.all (·<x.N))=true∧
   aRun E n ⟨x.N,[],.skip⟩ lim [.code x.assign,.begin i,.code x.body,.round i] (setParams x.fr x.params as) H=some L:=by
  intro mp lim i as H L h
  unfold aCall zCw at h
  simp only at h
  split at h
  ·cases h
  rename_i hmp
  split at h
  ·rename_i x hb
   split at h
   ·rename_i hc
    exact ⟨by simpa using hmp,x,hb,hc.1,hc.2.1,hc.2.2,h⟩
   ·cases h
  ·cases h
 refine { pure:=?_,fn:=?_,calls:=?_,rounds:=?_,grow:=hgrow }
 ·intro mp lim g as H L h
  rcases inv h with ⟨v,e,_⟩ | ⟨r,e,_⟩ | ⟨af,e,_⟩
  ·exact hE.orcFn _ _ _ e
  ·exact hE.effFn _ _ _ _ e
  ·exact trOk e
 ·intro mp lim g as H L h hl W σ w as' hinv ha
  rcases inv h with ⟨v,e,rfl,hat,hfl⟩ | ⟨r,e,rfl,_,hu⟩ | ⟨af,e,⟨v,hp,rfl,hfl,L0,hx,hall⟩ | ⟨_,hx⟩⟩
  case inr.inl=>exact (hE.eff _ _ _ _ e lim hl hu W σ w as' hinv ha).mono fun en w' hp=>⟨_,List.mem_singleton.2 rfl,hp⟩
  ·have heq:as'=as:=by
    apply List.ext_getElem ha.1.symm
    intro i h1 h2
    exact (ha.2 i _ _ (List.getElem?_eq_getElem h2) (List.getElem?_eq_getElem h1)).eq_of_atom (List.all_eq_true.1 hat _ (by simp))
   subst heq
   refine (hE.orc _ _ _ e w hinv.toRoot.is).mono fun en w' hp=>?_
   obtain ⟨rfl,hb⟩:=hp
   obtain ⟨hb,hdr⟩:=hb
   refine ⟨_,List.mem_singleton.2 rfl,v,σ,rfl, ?_,hinv.world hb.size (fun k hk=>hb.block k hk),⟨hb.os,hb.tape,⟨hb.output,hdr⟩,hb.size,fun k hk=>hb.block k ?_⟩,Sig.le_refl _,fun j hj=>absurd rfl hj⟩
   ·exact hE.orcFlat _ _ _ e σ
   ·rcases Nat.lt_or_ge k w.heap.size with h | h
    ·exact h
    ·exact absurd (hinv.fresh k h) hk
  ·have hinv':Inv (Prg.mk P (Env.pure E)) (fun k=>w.heap.size≤k) H.length σ H w:=⟨hinv.toRoot.over,hinv.blk,hinv.inj,fun i b L hb ho hli hL=>by
    have:=(List.getElem?_eq_some_iff.1 hb).1
    omega,hinv.dom⟩
   refine (call_sound hE n ih (hE.tr _ _ e) hx (Nat.le_refl _) hinv' ha).mono fun en w' hp=>?_
   obtain ⟨r,hr,v',σ',rfl,h1,h2,h3,h4,h5⟩:=hp
   rw [hall r hr] at h1
   have hsm:∀k,k<w.heap.size→w'.heap[k]? = w.heap[k]?:=fun k hk=>h3.block k (by omega)
   refine ⟨_,List.mem_singleton.2 rfl,v',σ,rfl,h1.olds (fun i L hi hL=>by rw [←hL];exact (Classical.byContradiction fun e=>by have:=h5 i (Ne.symm e);omega:σ i=σ' i)) 4 hfl,hinv.world h3.size hsm,⟨h3.os,h3.tape,h3.output,h3.size,fun k hk=>hsm k ?_⟩,Sig.le_refl _,fun j hj=>absurd rfl hj⟩
   rcases Nat.lt_or_ge k w.heap.size with h | h
   ·exact h
   ·exact absurd (hinv.fresh k h) hk
  ·exact call_sound hE n ih (hE.tr _ _ e) hx hl hinv ha
 ·intro mp lim i as H L h hl W σ w as' L0 hinv ha hL
  obtain ⟨_,x,hb,h1,h2,h3,h4⟩:=invR h
  exact round_sound hE n ih hb h1 h2 h3 h4 hl hinv ha hL
 ·intro lim g as H L h r hr
  cases g with
  | inr i=>obtain ⟨e,_⟩:=invR h;cases e
  | inl g=>
  rcases inv h with ⟨v,_,e,_⟩ | ⟨_,_,_,e,_⟩ | ⟨af,_,⟨v,_,e,_⟩ | ⟨e,_⟩⟩
  ·subst e;rw [List.mem_singleton] at hr;subst hr;rfl
  ·cases e
  ·subst e;rw [List.mem_singleton] at hr;subst hr;rfl
  ·cases e
theorem Inv.nil (w:World) (hw:Held (Prg.mk P (Env.pure E)) w):Inv (Prg.mk P (Env.pure E)) (fun k=>w.heap.size≤k) 0 (fun _=>none) [] w:=
 ⟨⟨fun b hb=>hb,by obtain ⟨w0,h1,h2,h3⟩:=hw;exact ⟨w0,h1,h2,fun b hb=>by omega,h3⟩⟩,fun i b hb=>by simp at hb,fun i j bi bj Li Lj hb=>by simp at hb,fun i b L hb=>by simp at hb,fun _ _=>rfl⟩
end
end Go.AM

namespace Go.AM
universe u
namespace Sym
abbrev t (n:Nat):Operand:=.tmp n
abbrev k (v:Value):Operand:=.const v
abbrev i (d:Nat) (o:AOp):zIn:=⟨some d,none,o,none,[]⟩
abbrev zT (n:Int):Operand:=k (.int .i64 n)
abbrev mT (a b:Nat):zIn:=i a (.mov (t b))
abbrev lT (a b:Nat):zIn:=i a (.load1 (t b))
abbrev fT (a n b:Nat):zIn:=i a (.fieldAddr n (t b))
abbrev xT (a e b c:Nat):zIn:=i a (.idxAddrS e (t b) (t c))
abbrev Yp (d g:Nat) (o:AOp):zIn:=⟨some d,some (g,true),o,none,[]⟩
abbrev Pl (d g a:Nat):zIn:=Yp d g (.load1 (t a))
abbrev At (d a b:Nat):zIn:=i d (.pick (t a) (t b) (k (.bool false)))
end Sym
structure Bx {α:Sort u} (a:α):Type where
def Outs (dt:Bool) (L:List (Value×zH)) (R:Value→zH→Prop):Prop:=(dt=true→∃x,L=[x])∧∀r∈L,R r.1 r.2
theorem Outs.mono {dt:Bool} {L:List (Value×zH)} {R R':Value→zH→Prop} (h:Outs dt L R) (hr:∀v H,R v H→R' v H):Outs dt L R':=⟨h.1,fun r hr'=>hr _ _ (h.2 r hr')⟩
theorem Outs_one {dt:Bool} {v:Value} {H:zH} {R:Value→zH→Prop}:Outs dt [(v,H)] R=R v H:=propext ⟨fun h=>h.2 (v,H) (by simp),fun h=>⟨fun _=>⟨_,rfl⟩,fun r hr=>by rw [List.mem_singleton] at hr;subst hr;exact h⟩⟩
theorem Outs_pair {dt:Bool} {r:Value×zH} {R:Value→zH→Prop}:Outs dt [r] R=R r.1 r.2:=Outs_one
def Ret (E:Env) (af:zAf) (lim:Nat) (k:List zAi) (fr:Nat→Value) (H:zH) (R:Value→zH→Prop) (_:Bx k:=⟨⟩) (_:Bx R:=⟨⟩):Prop:=
 ∃n L,aRun E n af lim k fr H=some L∧Outs E.dt L R
def CallT (E:Env) (mp:Bool) (lim:Nat) (t:FuncId ⊕ Nat) (as:List Value) (H:zH) (R:Value→zH→Prop) (_:Bx R:=⟨⟩):Prop:=
 ∃n L,aCall E n mp lim t as H=some L∧Outs E.dt L R
def CallR (E:Env) (mp:Bool) (lim:Nat) (g:FuncId) (as:List Value) (H:zH) (R:Value→zH→Prop) (_:Bx R:=⟨⟩):Prop:=
 ∃n L,aCall E n mp lim (.inl g) as H=some L∧Outs E.dt L R
def CallY (E:Env) (mp:Bool) (lim:Nat) (i:Nat) (as:List Value) (H:zH) (R:Value→zH→Prop) (_:Bx R:=⟨⟩):Prop:=
 ∃n L,aCall E n mp lim (.inr i) as H=some L∧Outs E.dt L R
def dT (E:Env):Env:={ E with dt:=true }
class DT (E:Env) (E':outParam Env):Prop where
 eq:dT E=E'
def opK (r:Option (Value×zH)) (f:Value→zH→Prop) (_:Bx f:=⟨⟩):Prop:=match r with | some (v,H')=>f v H' | none=>False
def nxK (dt:Bool) (r:Option (List (Value×zH))) (f:Value→zH→Prop) (_:Bx f:=⟨⟩):Prop:=match r with | some L=>Outs dt L f | none=>False
def condK (v:Value) (p q:Prop) (_:Bx p:=⟨⟩) (_:Bx q:=⟨⟩):Prop:=match v with | .bool true=>p | .bool false=>q | _=>False
def wantK (v:Value) (b:Bool) (p q:Prop) (_:Bx p:=⟨⟩) (_:Bx q:=⟨⟩):Prop:=match v with | .bool c=>if c=b then p else q | _=>q
theorem callWith_dT {E:Env} {run:zAf→Nat→List zAi→(Nat→Value)→zH→Option (List (Value×zH))}:zCw (dT E) run=zCw E run:=rfl
theorem aRun_dT (E:Env):∀n,aRun (dT E) n=aRun E n
 | 0=>by funext af lim k fr H;simp [aRun]
 | n+1=>by
   have ih:=aRun_dT E n
   funext af lim k fr H
   rw [aRun.eq_def,aRun.eq_def E]
   simp only [ih,callWith_dT]
theorem aCall_dT (E:Env) (n:Nat):aCall (dT E) n=aCall E n:=by unfold aCall;rw [aRun_dT,callWith_dT]
section
variable {E:Env} {af:zAf} {lim:Nat} {K:List zAi} {fr:Nat→Value} {H:zH} {R:Value→zH→Prop}
theorem Ret.succ {k k1:List zAi} {fr fr1:Nat→Value} {H H1:zH} (h:∀n,aRun E (n+1) af lim k fr H=aRun E n af lim k1 fr1 H1):Ret E af lim k fr H R=Ret E af lim k1 fr1 H1 R:=by
 apply propext
 constructor
 ·rintro ⟨n,L,hx,hr⟩
  cases n with
  | zero=>simp [aRun] at hx
  | succ n=>rw [h] at hx;exact ⟨n,L,hx,hr⟩
 ·rintro ⟨n,L,hx,hr⟩
  exact ⟨n+1,L,by rw [h];exact hx,hr⟩
theorem Ret_first {k:List zAi} {r:Option (Value×zH)} (h:∀n,aRun E (n+1) af lim k fr H=one r):Ret E af lim k fr H R=opK r R:=by
 apply propext
 constructor
 ·rintro ⟨n,L,hx,hr⟩
  cases n with
  | zero=>simp [aRun] at hx
  | succ n=>
    rw [h] at hx
    obtain ⟨x,rfl,rfl⟩:=one_some hx
    rw [Outs_pair] at hr
    exact hr
 ·intro hk
  cases hx:r with
  | none=>rw [hx] at hk;exact hk.elim
  | some p=>rw [hx] at hk;exact ⟨1,[p],by rw [h,hx];rfl,by rw [Outs_pair];exact hk⟩
theorem Ret_fin {k:List zAi} (h:∀n,aRun E (n+1) af lim k fr H=one ((result fr H af.results).map (·,H))):Ret E af lim k fr H R=opK ((result fr H af.results).map (·,H)) R:=Ret_first h
theorem Ret_seq {a b}:Ret E af lim (.code (.seq a b)::K) fr H R=Ret E af lim (.code a::.code b::K) fr H R:=Ret.succ fun n=>by rw [aRun.eq_def]
theorem Ret_skip:Ret E af lim (.code .skip::K) fr H R=Ret E af lim K fr H R:=Ret.succ fun n=>by rw [aRun.eq_def]
theorem Ret_cops {l}:Ret E af lim (.code (.ops l)::K) fr H R=Ret E af lim (.ops none l::K) fr H R:=Ret.succ fun n=>by rw [aRun.eq_def]
theorem Ret_drawn {m l}:Ret E af lim (.code (.drawn m l)::K) fr H R=Ret E af lim (.ops (some H.length) l::K) fr (H++List.replicate m .dead) R:=Ret.succ fun n=>by rw [aRun.eq_def]
theorem Ret_ret:Ret E af lim (.code .ret::K) fr H R=opK ((result fr H af.results).map (·,H)) R:=Ret_fin fun n=>by rw [aRun.eq_def]
theorem Ret_nil:Ret E af lim [] fr H R=opK ((result fr H af.results).map (·,H)) R:=Ret_fin fun n=>by rw [aRun.eq_def]
theorem Ret_block {id b}:Ret E af lim (.code (.block id b)::K) fr H R=Ret E af lim (.code b::.inBlock id::K) fr H R:=Ret.succ fun n=>by rw [aRun.eq_def]
theorem Ret_inBlock {id}:Ret E af lim (.inBlock id::K) fr H R=Ret E af lim K fr H R:=Ret.succ fun n=>by rw [aRun.eq_def]
theorem Ret_loop {b}:Ret E af lim (.code (.loop b)::K) fr H R=Ret E af lim (.code b::.inLoop b::K) fr H R:=Ret.succ fun n=>by rw [aRun.eq_def]
theorem Ret_inLoop {b}:Ret E af lim (.inLoop b::K) fr H R=Ret E af lim (.code b::.inLoop b::K) fr H R:=Ret.succ fun n=>by rw [aRun.eq_def]
theorem Ret_ops_nil {b}:Ret E af lim (.ops b []::K) fr H R=Ret E af lim K fr H R:=Ret.succ fun n=>by rw [aRun.eq_def]
theorem Ret_exit {id K'} (h:aExit id K=some K'):Ret E af lim (.code (.exit id)::K) fr H R=Ret E af lim K' fr H R:=Ret.succ fun n=>by rw [aRun.eq_def];simp only [h]
theorem Ret_cond {c a b}:Ret E af lim (.code (.cond c a b)::K) fr H R=condK (ev fr c) (Ret E af lim (.code a::K) fr H R) (Ret E af lim (.code b::K) fr H R):=by
 cases hc:ev fr c with
 | bool t=>cases t<;>exact Ret.succ fun n=>by rw [aRun.eq_def];simp only [hc]
 | _=>
   apply propext
   constructor
   ·rintro ⟨n,L,hx,hr⟩
    cases n with
    | zero=>simp [aRun] at hx
    | succ n=>rw [aRun.eq_def] at hx;simp only [hc] at hx;cases hx
   ·intro h;exact h.elim
theorem Ret.det {k:List zAi} {n m:Nat} {r r':List (Value×zH)} (h:aRun E n af lim k fr H=some r) (h':aRun E m af lim k fr H=some r'):r=r':=by
 have h1:=aRun_le E (Nat.le_max_left n m) h
 have h2:=aRun_le E (Nat.le_max_right n m) h'
 rw [h1] at h2;exact Option.some.inj h2
def isCall:AOp→Bool
 | .call ..=>true
 | _=>false
def dOk (N:Nat):Option Nat→Bool
 | none=>true
 | some d=>decide (d<N)
def putF (d:Option Nat) (fr:Nat→Value) (v:Value):Nat→Value:=match d with | none=>fr | some d=>upd fr d v
def gK (N:Nat) (fr:Nat→Value) (g:Option (Nat×Bool)) (p q:Prop) (_:Bx p:=⟨⟩) (_:Bx q:=⟨⟩):Prop:=match wantedA N fr g with | none=>False | some true=>p | some false=>q
def oK (E:Env) (lim:Nat) (base:Option Nat) (dest:Option Nat) (mask:List Nat) (o:AOp) (fr:Nat→Value) (H:zH) (Q:Value→zH→Prop) (_:Bx Q:=⟨⟩):Prop:=
 match base with
 | none=>∃n L,stepX (aCall E n) lim ⟨none,none,o,dest,mask⟩ (ev fr) H=some L∧Outs E.dt L Q
 | some b=>∃n v H',stepOp (det (aCall E n)) lim (dest.map (b+·)) o (ev fr) (zMh b mask H)=some (v,H')∧Q v (zUm b mask H H')
theorem putD_ok {N:Nat} {d:Option Nat} (h:dOk N d=true) (v:Value):putD N fr d v=some (putF d fr v):=by
 cases d with
 | none=>rfl
 | some d=>simp [dOk] at h;simp [putD,putF,h]
theorem Ret_all {L:List ((Nat→Value)×zH)} {k:List zAi} (h:∀r∈L,Ret E af lim k r.1 r.2 R):∃N,∀r∈L,∃s,aRun E N af lim k r.1 r.2=some s∧Outs E.dt s R:=by
 induction L with
 | nil=>exact ⟨0,fun r hr=>by cases hr⟩
 | cons x L ih=>
   obtain ⟨N,hN⟩:=ih fun r hr=>h r (by simp [hr])
   obtain ⟨n,s,h1,h2⟩:=h x (by simp)
   refine ⟨max N n,fun r hr=>?_⟩
   rcases List.mem_cons.1 hr with rfl | hr
   ·exact ⟨s,aRun_le E (Nat.le_max_right N n) h1,h2⟩
   ·obtain ⟨s',g1,g2⟩:=hN r hr
    exact ⟨s',aRun_le E (Nat.le_max_left N n) g1,g2⟩
theorem bindL_one {α β:Type} {f:α→Option (List β)} {l:List α} {r:List β} (h:bindL f l=some r) (hf:∀x∈l,∀s,f x=some s→s≠[]) {y:β} (hr:r=[y]):∃x,l=[x]:=by
 cases l with
 | nil=>simp [bindL] at h;rw [←h] at hr;cases hr
 | cons a l=>
   cases l with
   | nil=>exact ⟨a,rfl⟩
   | cons b l=>
     simp only [bindL] at h
     split at h
     ·rename_i s t hs ht
      split at ht
      ·rename_i s2 t2 hs2 ht2
       cases ht
       cases h
       have h1:=hf a (by simp) s hs
       have h2:=hf b (by simp) s2 hs2
       cases s with
       | nil=>exact absurd rfl h1
       | cons _ s=>
         cases s2 with
         | nil=>exact absurd rfl h2
         | cons _ _=>simp at hr
      ·cases ht
     ·cases h
theorem Ret_consN {x:zIn} {l:List zIn}:Ret E af lim (.ops none (x::l)::K) fr H R=∃n L,insS (aCall E n) af.ntmps lim x fr H=some L∧(E.dt=true→∃y,L=[y])∧∀r∈L,Ret E af lim (.ops none l::K) r.1 r.2 R:=by
 apply propext
 constructor
 ·rintro ⟨n,L,hx,hr⟩
  cases n with
  | zero=>simp [aRun] at hx
  | succ n=>
    rw [aRun.eq_def] at hx
    simp only at hx
    split at hx
    ·rename_i L0 h1
     refine ⟨n,L0,h1,fun hd=>?_,fun r hr'=>?_⟩
     ·obtain ⟨y,hy⟩:=hr.1 hd
      exact bindL_one hx (fun x _ s hs=>aRun_ne E _ _ _ _ _ _ _ hs) hy
     ·obtain ⟨s,hs,hsub⟩:=bindL_fwd hx r hr'
      refine ⟨n,s,hs,fun hd=>?_,fun q hq=>hr.2 q (hsub q hq)⟩
      obtain ⟨y,hy⟩:=hr.1 hd
      obtain ⟨z,hz⟩:=bindL_one hx (fun x _ s hs=>aRun_ne E _ _ _ _ _ _ _ hs) hy
      subst hz
      rw [List.mem_singleton] at hr'
      subst hr'
      simp only [bindL,hs,Option.some.injEq,List.append_nil] at hx
      exact ⟨y,hx.trans hy⟩
    ·cases hx
 ·rintro ⟨n,L0,h1,hd,h2⟩
  obtain ⟨N,hN⟩:=Ret_all h2
  have e:insS (zCw E (aRun E (max n N))) af.ntmps lim x fr H=some L0:=insS_mono (aCall_le E (Nat.le_max_left n N)) h1
  obtain ⟨L,hL⟩:=bindL_some (f:=fun r:(Nat→Value)×zH=>aRun E (max n N) af lim (.ops none l::K) r.1 r.2) (l:=L0) fun r hr=>by
   obtain ⟨s,hs,_⟩:=hN r hr
   exact ⟨s,aRun_le E (Nat.le_max_right n N) hs⟩
  refine ⟨max n N+1,L,by rw [aRun.eq_def];simp only [e,hL],fun hdt=>?_,fun q hq=>?_⟩
  ·obtain ⟨y,rfl⟩:=hd hdt
   obtain ⟨s,hs,ho⟩:=hN y (by simp)
   have hs':=aRun_le E (Nat.le_max_right n N) hs
   simp only [bindL,hs',Option.some.injEq,List.append_nil] at hL
   obtain ⟨z,hz⟩:=ho.1 hdt
   exact ⟨z,by rw [←hL,hz]⟩
  ·obtain ⟨r,hr,s,hs,hqs⟩:=bindL_back hL q hq
   obtain ⟨s',hs',ho⟩:=hN r hr
   have:=Ret.det hs hs'
   subst this
   exact ho.2 q hqs
theorem Ret_consB {b:Nat} {x:zIn} {l:List zIn}:Ret E af lim (.ops (some b) (x::l)::K) fr H R=∃n,∃fr' H',insOp (det (aCall E n)) af.ntmps lim (some b) x fr H=some (fr',H')∧Ret E af lim (.ops (some b) l::K) fr' H' R:=by
 apply propext
 constructor
 ·rintro ⟨n,L,hx,hr⟩
  cases n with
  | zero=>simp [aRun] at hx
  | succ n=>
    rw [aRun.eq_def] at hx
    simp only at hx
    split at hx
    ·rename_i fr' H1 h1
     exact ⟨n,fr',H1,h1,n,L,hx,hr⟩
    ·cases hx
 ·rintro ⟨n,fr',H1,h1,m,L,hx,hr⟩
  refine ⟨max n m+1,L, ?_,hr⟩
  rw [aRun.eq_def]
  simp only
  have e:insOp (det (zCw E (aRun E (max n m)))) af.ntmps lim (some b) x fr H=some (fr',H1):=insOp_mono (aCall_le E (Nat.le_max_left n m)).det h1
  rw [e]
  exact aRun_le E (Nat.le_max_right n m) hx
theorem Ret_i {base d g o dest mask l} (hd:dOk af.ntmps d=true):Ret E af lim (.ops base (⟨d,g,o,dest,mask⟩::l)::K) fr H R =
  gK af.ntmps fr g (oK E lim base dest mask o fr H fun v H'=>Ret E af lim (.ops base l::K) (putF d fr v) H' R) (Ret E af lim (.ops base l::K) (putF d fr undef) H R):=by
 cases base with
 | none=>
   rw [Ret_consN]
   unfold gK insS
   simp only
   cases hw:wantedA af.ntmps fr g with
   | none=>simp
   | some t=>
     cases t with
     | false=>
       simp only [putD_ok hd,Option.map_some,Option.some.injEq]
       apply propext
       constructor
       ·rintro ⟨n,L,rfl,_,h⟩
        exact h _ (List.mem_singleton.2 rfl)
       ·intro h
        exact ⟨0,_,rfl,fun _=>⟨_,rfl⟩,fun r hr=>by rw [List.mem_singleton] at hr;subst hr;exact h⟩
     | true=>
       simp only [oK]
       have hst:∀n,stepX (aCall E n) lim ⟨d,g,o,dest,mask⟩ (ev fr) H=stepX (aCall E n) lim ⟨none,none,o,dest,mask⟩ (ev fr) H:=fun n=>rfl
       have hm:∀L:List (Value×zH),mapL (fun r:Value×zH=>(putD af.ntmps fr d r.1).map (·,r.2)) L=some (L.map fun r=>(putF d fr r.1,r.2)):=fun L=>by
        induction L with
        | nil=>rfl
        | cons x L ih=>rw [mapL,ih,putD_ok hd];rfl
       simp only [hst]
       apply propext
       constructor
       ·rintro ⟨n,L,h1,hdt,h2⟩
        split at h1
        ·rename_i L0 h5
         rw [hm] at h1
         cases h1
         refine ⟨n,L0,h5,fun he=>?_,fun r hr=>h2 _ (List.mem_map.2 ⟨r,hr,rfl⟩)⟩
         obtain ⟨y,hy⟩:=hdt he
         cases L0 with
         | nil=>cases hy
         | cons a L0=>
           cases L0 with
           | nil=>exact ⟨a,rfl⟩
           | cons b L0=>simp at hy
        ·cases h1
       ·rintro ⟨n,L0,h1,hdt,h2⟩
        refine ⟨n,L0.map fun r=>(putF d fr r.1,r.2),by rw [h1];exact hm L0,fun he=>?_,fun r hr=>?_⟩
        ·obtain ⟨y,rfl⟩:=hdt he
         exact ⟨_,rfl⟩
        ·obtain ⟨q,hq,rfl⟩:=List.mem_map.1 hr
         exact h2 q hq
 | some b=>
   rw [Ret_consB]
   unfold gK insOp insVal
   simp only
   cases hw:wantedA af.ntmps fr g with
   | none=>simp
   | some t=>
     cases t with
     | false=>
       simp only [Option.map_eq_some_iff,Prod.mk.injEq,putD_ok hd]
       apply propext
       constructor
       ·rintro ⟨n,fr',H',⟨f,h1,h2,h3⟩,h4⟩
        cases h1;subst h2 h3;exact h4
       ·intro h
        exact ⟨0,_,_,⟨_,rfl,rfl,rfl⟩,h⟩
     | true=>
       simp only [oK]
       apply propext
       constructor
       ·rintro ⟨n,fr',H',h1,h4⟩
        split at h1
        ·rename_i v H1 h5
         split at h5
         ·rename_i v' H2 h6
          cases h5
          rw [putD_ok hd] at h1
          simp only [Option.map_some,Option.some.injEq,Prod.mk.injEq] at h1
          obtain ⟨rfl,rfl⟩:=h1
          exact ⟨n,v,H2,h6,h4⟩
         ·cases h5
        ·cases h1
       ·rintro ⟨n,v,H',h1,h4⟩
        refine ⟨n,_,_, ?_,h4⟩
        rw [h1]
        simp only [putD_ok hd,Option.map_some]
theorem gK_none {N:Nat} {p q:Prop}:gK N fr none p q=p:=rfl
theorem gK_some {N g:Nat} {b:Bool} {p q:Prop} (h:g<N):gK N fr (some (g,b)) p q=wantK (fr g) b p q:=by
 unfold gK wantedA wantK
 simp only [h,if_true]
 cases fr g<;>simp
 rename_i c
 cases c<;>cases b<;>simp
variable {base dest:Option Nat} {mask:List Nat} {o:AOp} {Q:Value→zH→Prop}
theorem stepOp_no {C:CallF} {ρ:Operand→Value} (h:isCall o=false):stepOp C lim dest o ρ H=aOp lim dest o ρ H:=by
 cases o<;>first | rfl | (simp [isCall] at h)
theorem stepX_no {C:CallS} {ρ:Operand→Value} (h:isCall o=false):stepX C lim ⟨none,none,o,none,mask⟩ ρ H=(aOp lim none o ρ H).map fun r=>[r]:=by
 unfold stepX
 cases o<;>first | rfl | (simp [isCall] at h)
theorem zOn (h:isCall o=false):oK E lim none none mask o fr H Q=opK (aOp lim none o (ev fr) H) Q:=by
 unfold oK opK
 simp only [stepX_no h]
 cases aOp lim none o (ev fr) H with
 | none=>simp
 | some p=>exact propext ⟨by rintro ⟨_,_,h,q⟩;cases h;rw [Outs_pair] at q;exact q,fun q=>⟨0,_,rfl,by rw [Outs_pair];exact q⟩⟩
theorem zOk {b:Nat} (h:isCall o=false):oK E lim (some b) dest mask o fr H Q=opK (aOp lim (dest.map (b+·)) o (ev fr) (zMh b mask H)) fun v H'=>Q v (zUm b mask H H'):=by
 unfold oK opK
 simp only [stepOp_no h]
 cases aOp lim (dest.map (b+·)) o (ev fr) (zMh b mask H) with
 | none=>simp
 | some p=>exact propext ⟨by rintro ⟨_,_,_,h,q⟩;cases h;exact q,fun q=>⟨0,_,_,rfl,q⟩⟩
theorem oK_range {x:Operand}:oK E lim none (some 1) mask (.mov x) fr H Q=opK (aRangeMap (ev fr x) H) Q:=by
 unfold oK opK stepX stepI
 simp only
 cases aRangeMap (ev fr x) H with
 | none=>simp
 | some p=>exact propext ⟨by rintro ⟨_,_,h,q⟩;cases h;rw [Outs_pair] at q;exact q,fun q=>⟨0,_,rfl,by rw [Outs_pair];exact q⟩⟩
theorem oK_next {x:Operand}:oK E lim none (some 2) mask (.mov x) fr H Q=nxK E.dt (aNext lim (ev fr x) H) Q:=by
 unfold oK nxK stepX stepI
 simp only
 cases aNext lim (ev fr x) H with
 | none=>simp
 | some L=>exact propext ⟨by rintro ⟨_,_,h,q⟩;cases h;exact q,fun q=>⟨0,_,rfl,q⟩⟩
theorem oK_entry {x:Operand}:oK E lim none (some 3) mask (.mov x) fr H Q=opK (aEntry (ev fr x) H) Q:=by
 unfold oK opK stepX stepI
 simp only
 cases aEntry (ev fr x) H with
 | none=>simp
 | some p=>exact propext ⟨by rintro ⟨_,_,h,q⟩;cases h;rw [Outs_pair] at q;exact q,fun q=>⟨0,_,rfl,by rw [Outs_pair];exact q⟩⟩
def calK (c:Option ((FuncId ⊕ Nat)×List Value)) (f:FuncId ⊕ Nat→List Value→Prop) (_:Bx f:=⟨⟩):Prop:=match c with | some (g,as)=>f g as | none=>False
theorem CallT_inl {mp:Bool} {g:FuncId} {as:List Value}:CallT E mp lim (.inl g) as H Q=CallR E mp lim g as H Q:=rfl
theorem CallT_inr {mp:Bool} {i:Nat} {as:List Value}:CallT E mp lim (.inr i) as H Q=CallY E mp lim i as H Q:=rfl
theorem calK_some {g:FuncId ⊕ Nat} {as:List Value} {f:FuncId ⊕ Nat→List Value→Prop}:calK (some (g,as)) f=f g as:=rfl
theorem pure_any:CM.any.isPure=false:=id rfl
theorem pure_pure:CM.pure.isPure=true:=id rfl
theorem pure_mk:CM.mk.isPure=false:=id rfl
def CM.free:CM→Bool
 | .maps | .recs=>false
 | _=>true
theorem free_any:CM.free .any=true:=id rfl
theorem free_pure:CM.free .pure=true:=id rfl
theorem free_mk:CM.free .mk=true:=id rfl
theorem loadX_none {H:zH} {p:Addr}:loadX none H p=loadCell H p:=id rfl
theorem loadX_some {H:zH} {p:Addr} {k:Nat}:loadX (some k) H p=(loadCells H p k).map fun c=>.agg c.toArray:=id rfl
theorem isRecB_ptr {ro:Bool} {p:Option Addr} {l:List Value}:isRecB (.cells ro (.pointer p::l))=true:=id rfl
theorem isRecB_slice {ro:Bool} {p:Option Addr} {n c:Nat} {l:List Value}:isRecB (.cells ro (.slice p n c::l))=true:=id rfl
theorem isRecB_int {ro:Bool} {k:IntKind} {n:Int} {l:List Value}:isRecB (.cells ro (.int k n::l))=isRecB (.cells ro l):=id rfl
theorem lim_any {H:zH}:CM.any.lim lim H=lim:=id rfl
theorem lim_pure {H:zH}:CM.pure.lim lim H=lim:=id rfl
theorem lim_mk {H:zH}:CM.mk.lim lim H=H.length:=id rfl
theorem mapL_fin {mp:CM} (hm:mp.free=true) {H:zH}:∀L:List (Value×zH),mapL (fun r=>finM mp H (some r)) L=some L
 | []=>rfl
 | x::L=>by
   have e:finM mp H (some x)=some x:=by cases mp<;>first | rfl | cases hm
   simp only [mapL,e,mapL_fin hm L]
theorem oK_call {mp:CM} {f:Operand} {args:List Operand} (hm:mp.free=true):oK E lim none none mask (.call mp f args) fr H Q=calK (zCa (ev fr f) (args.map (ev fr))) fun g as=>CallT E mp.isPure (mp.lim lim H) g as H Q:=by
 unfold oK calK CallT
 simp only [stepX,stepS]
 cases zCa (ev fr f) (args.map (ev fr)) with
 | none=>simp
 | some p=>
   obtain ⟨g,as⟩:=p
   simp only
   apply propext
   constructor
   ·rintro ⟨n,L,h,q⟩
    split at h
    ·rename_i L0 h0
     rw [mapL_fin hm] at h
     cases h
     exact ⟨n,L,h0,q⟩
    ·cases h
   ·rintro ⟨n,L,h,q⟩
    exact ⟨n,L,by rw [h];exact mapL_fin hm L,q⟩
theorem det_iff {C:CallS} {mp:Bool} {t:FuncId ⊕ Nat} {as:List Value} {p:Value×zH}:det C mp lim t as H=some p↔C mp lim t as H=some [p]:=by
 unfold det
 constructor
 ·exact fun h=>oneOf_some h
 ·intro h;rw [h];rfl
theorem oK_callB {E':Env} [hE:DT E E'] {b:Nat} {mp:CM} {f:Operand} {args:List Operand} (hm:mp.free=true):oK E lim (some b) dest mask (.call mp f args) fr H Q=calK (zCa (ev fr f) (args.map (ev fr))) fun g as=>CallT E' mp.isPure (mp.lim lim (zMh b mask H)) g as (zMh b mask H) fun v H'=>Q v (zUm b mask H H'):=by
 obtain rfl:=hE.eq
 unfold oK calK stepOp CallT
 simp only
 cases zCa (ev fr f) (args.map (ev fr)) with
 | none=>simp
 | some p=>
   obtain ⟨g,as⟩:=p
   have e:∀r,finM mp (zMh b mask H) r=r:=fun r=>by cases mp<;>first | rfl | cases hm
   simp only [e,det_iff,aCall_dT]
   apply propext
   constructor
   ·rintro ⟨n,v,H',h,q⟩
    exact ⟨n,_,h,by rw [Outs_one];exact q⟩
   ·rintro ⟨n,L,h,q⟩
    obtain ⟨⟨v,H'⟩,rfl⟩:=q.1 rfl
    rw [Outs_one] at q
    exact ⟨n,v,H',h,q⟩
theorem oK_mapsB {E':Env} [hE:DT E E'] {b:Nat} {f:Operand} {args:List Operand}:oK E lim (some b) dest mask (.call .maps f args) fr H Q=calK (zCa (ev fr f) (args.map (ev fr))) fun g as=>CallT E' false lim g as (zMh b mask H) fun v H'=>cellsKept (zMh b mask H) H'=true∧Q v (zUm b mask H H'):=by
 obtain rfl:=hE.eq
 unfold oK calK CallT
 simp only [stepOp]
 cases zCa (ev fr f) (args.map (ev fr)) with
 | none=>simp
 | some p=>
   obtain ⟨g,as⟩:=p
   simp only [aCall_dT]
   apply propext
   constructor
   ·rintro ⟨n,v,H',h,q⟩
    obtain ⟨h1,h2⟩:=finM_some h
    exact ⟨n,_,det_iff.1 h1,by rw [Outs_one];exact ⟨h2 rfl,q⟩⟩
   ·rintro ⟨n,L,h1,q⟩
    obtain ⟨⟨v,H'⟩,rfl⟩:=q.1 rfl
    rw [Outs_one] at q
    obtain ⟨h2,q⟩:=q
    refine ⟨n,v,H', ?_,q⟩
    show finM .maps (zMh b mask H) (det (aCall E n) false lim g as (zMh b mask H))=some (v,H')
    rw [det_iff.2 h1]
    simp only [finM,if_pos h2]
theorem oK_recsB {E':Env} [hE:DT E E'] {b:Nat} {f:Operand} {args:List Operand}:oK E lim (some b) dest mask (.call .recs f args) fr H Q=calK (zCa (ev fr f) (args.map (ev fr))) fun g as=>CallT E' false lim g as (zMh b mask H) fun v H'=>recsKept (zMh b mask H) H'=true∧Q v (zUm b mask H H'):=by
 obtain rfl:=hE.eq
 unfold oK calK CallT
 simp only [stepOp]
 cases zCa (ev fr f) (args.map (ev fr)) with
 | none=>simp
 | some p=>
   obtain ⟨g,as⟩:=p
   simp only [aCall_dT]
   apply propext
   constructor
   ·rintro ⟨n,v,H',h,q⟩
    have h2:=finM_recs h
    exact ⟨n,_,det_iff.1 (finM_some h).1,by rw [Outs_one];exact ⟨h2,q⟩⟩
   ·rintro ⟨n,L,h1,q⟩
    obtain ⟨⟨v,H'⟩,rfl⟩:=q.1 rfl
    rw [Outs_one] at q
    obtain ⟨h2,q⟩:=q
    refine ⟨n,v,H', ?_,q⟩
    show finM .recs (zMh b mask H) (det (aCall E n) false lim g as (zMh b mask H))=some (v,H')
    rw [det_iff.2 h1]
    simp only [finM,if_pos h2]
theorem CallT.all {mp:Bool} {t:FuncId ⊕ Nat} {as:List Value} {n:Nat} {L:List (Value×zH)} (h:aCall E n mp lim t as H=some L):CallT E mp lim t as H Q=Outs E.dt L Q:=by
 apply propext
 constructor
 ·rintro ⟨m,L',h1,h2⟩
  have e1:=aCall_le E (Nat.le_max_left n m) _ _ _ _ _ _ h
  have e2:=aCall_le E (Nat.le_max_right n m) _ _ _ _ _ _ h1
  rw [e1] at e2;cases e2;exact h2
 ·exact fun hq=>⟨n,L,h,hq⟩
theorem CallR.det {mp:Bool} {g:FuncId} {as:List Value} {n:Nat} {v:Value} {H':zH} (h:aCall E n mp lim (.inl g) as H=some [(v,H')]):CallR E mp lim g as H Q=Q v H':=by
 rw [←CallT_inl,CallT.all h,Outs_one]
theorem CallR_old {mp:Bool} {g:FuncId} {as:List Value} {v:Value} (ho:E.orc g as=none∧E.eff g as H=none) (ht:E.tr g=some af) (hp:E.pure g=true) (hf:olds H.length 4 v=true) (h:Ret E af H.length [.code af.body] (zFr as) H fun v' _=>v'=v):CallR E mp lim g as H Q=Q v H:=by
 obtain ⟨n,L,h1,hd,h2⟩:=h
 have hL:=aRun_ne E _ _ _ _ _ _ _ h1
 cases L with
 | nil=>exact absurd rfl hL
 | cons x L=>
   obtain ⟨v',H'⟩:=x
   have e1:v'=v:=h2 _ (List.mem_cons_self)
   subst e1
   have hall:(L.all fun r=>valEq v' r.1)=true:=List.all_eq_true.2 fun r hr=>by
    have:r.1=v':=h2 r (List.mem_cons_of_mem _ hr)
    rw [this];exact valEq_self v'
   exact CallR.det (n:=n) (by unfold aCall zCw;simp only [ho.1,ho.2,ht,hp,if_true,h1,hall,hf])
theorem CallR_pure {mp:Bool} {g:FuncId} {as:List Value} {v:Value} (ho:E.orc g as=none∧E.eff g as H=none) (ht:E.tr g=some af) (hp:E.pure g=true) (hf:flat 4 v=true) (h:Ret E af H.length [.code af.body] (zFr as) H fun v' _=>v'=v):CallR E mp lim g as H Q=Q v H:=
 CallR_old ho ht hp (olds_of_flat 4 hf) h
theorem CallR_orc {mp:Bool} {g:FuncId} {as:List Value} {v:Value} (ho:E.orc g as=some v) (ha:as.all atom=true) (hf:flat 4 v=true):CallR E mp lim g as H Q=Q v H:=
 CallR.det (n:=0) (by unfold aCall zCw;simp only [ho,ha,hf,Bool.and_self,if_true])
theorem CallR_run {mp:Bool} {g:FuncId} {as:List Value} (ho:E.orc g as=none∧E.eff g as H=none) (ht:E.tr g=some af) (hp:E.pure g=false) (hm:mp=false):CallR E mp lim g as H Q=Ret E af lim [.code af.body] (zFr as) H Q:=by
 unfold CallR Ret aCall zCw
 simp only [ho.1,ho.2,ht,hp,hm,Bool.false_eq_true,if_false]
theorem CallR_eff {g:FuncId} {as:List Value} {r:Value×List (List Value)×Option (Nat×List Value)} (ho:E.orc g as=none) (he:E.eff g as H=some r) (hu:updOk lim H r.2.2=true):CallR E false lim g as H Q=Q r.1 (effH H r.2):=
 CallR.det (n:=0) (by unfold aCall zCw;simp only [ho,he,hu,Bool.not_true,Bool.or_self,Bool.false_eq_true,if_false])
end
section
variable {E:Env} {af:zAf} {lim:Nat} {K:List zAi} {fr fr':Nat→Value} {H H':zH} {R:Value→zH→Prop}
theorem opK_some {v:Value} {f:Value→zH→Prop}:opK (some (v,H)) f=f v H:=rfl
theorem upd_same {d:Nat} {v:Value}:upd fr d v d=v:=by simp [upd]
theorem upd_ne {d t:Nat} {v:Value} (h:t≠d):upd fr d v t=fr t:=by simp [upd,h]
theorem ev_tmp {t:Nat}:ev fr (.tmp t)=fr t:=rfl
theorem ev_const {v:Value}:ev fr (.const v)=v:=rfl
theorem ev_func {f:FuncId}:ev fr (.func f)=.func (.func f) #[] #[]:=rfl
theorem zHo {X:zH} {j:Nat} (h:j<H.length):zG (H++X) j=zG H j:=by
 unfold zG;rw [List.getD_eq_getElem?_getD,List.getD_eq_getElem?_getD,List.getElem?_append_left h]
theorem zHw {X:zH} {j:Nat}:zG (H++X) (H.length+j)=X.getD j .dead:=by
 unfold zG;rw [List.getD_eq_getElem?_getD,List.getD_eq_getElem?_getD,List.getElem?_append_right (by omega)];simp
theorem zHn {X:zH}:zG (H++X) H.length=X.getD 0 .dead:=zHw (j:=0)
theorem set_new {X:zH} {j:Nat} {b:Blk}:(H++X).set (H.length+j) b=H++X.set j b:=by
 rw [List.set_append_right _ _ (by omega)];simp
theorem set_new0 {X:zH} {b:Blk}:(H++X).set H.length b=H++X.set 0 b:=set_new (j:=0)
theorem mask_nil {b:Nat}:zMh b [] H=H:=rfl
theorem unmask_nil {b:Nat} {H0:zH}:zUm b [] H0 H=H:=rfl
end
section
variable {E:Env} {lim b:Nat} {dest:Option Nat} {mask:List Nat} {fr:Nat→Value} {H:zH} {Q:Value→zH→Prop}
theorem on_mov {qx:Operand}:oK E lim none none mask (.mov qx) fr H Q=opK (aOp lim none (.mov qx) (ev fr) H) Q:=zOn rfl
theorem ob_mov {qx:Operand}:oK E lim (some b) dest mask (.mov qx) fr H Q=opK (aOp lim (dest.map (b+·)) (.mov qx) (ev fr) (zMh b mask H)) fun v H'=>Q v (zUm b mask H H'):=zOk rfl
theorem on_pick {qc qa qb:Operand}:oK E lim none none mask (.pick qc qa qb) fr H Q=opK (aOp lim none (.pick qc qa qb) (ev fr) H) Q:=zOn rfl
theorem ob_pick {qc qa qb:Operand}:oK E lim (some b) dest mask (.pick qc qa qb) fr H Q=opK (aOp lim (dest.map (b+·)) (.pick qc qa qb) (ev fr) (zMh b mask H)) fun v H'=>Q v (zUm b mask H H'):=zOk rfl
theorem on_bin {qop:BinOp} {qx qy:Operand}:oK E lim none none mask (.bin qop qx qy) fr H Q=opK (aOp lim none (.bin qop qx qy) (ev fr) H) Q:=zOn rfl
theorem ob_bin {qop:BinOp} {qx qy:Operand}:oK E lim (some b) dest mask (.bin qop qx qy) fr H Q=opK (aOp lim (dest.map (b+·)) (.bin qop qx qy) (ev fr) (zMh b mask H)) fun v H'=>Q v (zUm b mask H H'):=zOk rfl
theorem on_eqv {qneg:Bool} {qk:EqKind} {qx qy:Operand}:oK E lim none none mask (.eqv qneg qk qx qy) fr H Q=opK (aOp lim none (.eqv qneg qk qx qy) (ev fr) H) Q:=zOn rfl
theorem ob_eqv {qneg:Bool} {qk:EqKind} {qx qy:Operand}:oK E lim (some b) dest mask (.eqv qneg qk qx qy) fr H Q=opK (aOp lim (dest.map (b+·)) (.eqv qneg qk qx qy) (ev fr) (zMh b mask H)) fun v H'=>Q v (zUm b mask H H'):=zOk rfl
theorem on_un {qop:UnOp} {qx:Operand}:oK E lim none none mask (.un qop qx) fr H Q=opK (aOp lim none (.un qop qx) (ev fr) H) Q:=zOn rfl
theorem ob_un {qop:UnOp} {qx:Operand}:oK E lim (some b) dest mask (.un qop qx) fr H Q=opK (aOp lim (dest.map (b+·)) (.un qop qx) (ev fr) (zMh b mask H)) fun v H'=>Q v (zUm b mask H H'):=zOk rfl
theorem on_conv {qk:IntKind} {qx:Operand}:oK E lim none none mask (.conv qk qx) fr H Q=opK (aOp lim none (.conv qk qx) (ev fr) H) Q:=zOn rfl
theorem ob_conv {qk:IntKind} {qx:Operand}:oK E lim (some b) dest mask (.conv qk qx) fr H Q=opK (aOp lim (dest.map (b+·)) (.conv qk qx) (ev fr) (zMh b mask H)) fun v H'=>Q v (zUm b mask H H'):=zOk rfl
theorem on_alloc {qzero:List Value}:oK E lim none none mask (.alloc qzero) fr H Q=opK (aOp lim none (.alloc qzero) (ev fr) H) Q:=zOn rfl
theorem ob_alloc {qzero:List Value}:oK E lim (some b) dest mask (.alloc qzero) fr H Q=opK (aOp lim (dest.map (b+·)) (.alloc qzero) (ev fr) (zMh b mask H)) fun v H'=>Q v (zUm b mask H H'):=zOk rfl
theorem on_box {qx:Operand}:oK E lim none none mask (.box qx) fr H Q=opK (aOp lim none (.box qx) (ev fr) H) Q:=zOn rfl
theorem ob_box {qx:Operand}:oK E lim (some b) dest mask (.box qx) fr H Q=opK (aOp lim (dest.map (b+·)) (.box qx) (ev fr) (zMh b mask H)) fun v H'=>Q v (zUm b mask H H'):=zOk rfl
theorem on_build {qzero:List Value} {qparts:List (Nat×Nat×Operand)}:oK E lim none none mask (.build qzero qparts) fr H Q=opK (aOp lim none (.build qzero qparts) (ev fr) H) Q:=zOn rfl
theorem ob_build {qzero:List Value} {qparts:List (Nat×Nat×Operand)}:oK E lim (some b) dest mask (.build qzero qparts) fr H Q=opK (aOp lim (dest.map (b+·)) (.build qzero qparts) (ev fr) (zMh b mask H)) fun v H'=>Q v (zUm b mask H H'):=zOk rfl
theorem on_buildSlice {qlen:Nat} {qzero:List Value} {qparts:List (Nat×Nat×Operand)}:oK E lim none none mask (.buildSlice qlen qzero qparts) fr H Q=opK (aOp lim none (.buildSlice qlen qzero qparts) (ev fr) H) Q:=zOn rfl
theorem ob_buildSlice {qlen:Nat} {qzero:List Value} {qparts:List (Nat×Nat×Operand)}:oK E lim (some b) dest mask (.buildSlice qlen qzero qparts) fr H Q=opK (aOp lim (dest.map (b+·)) (.buildSlice qlen qzero qparts) (ev fr) (zMh b mask H)) fun v H'=>Q v (zUm b mask H H'):=zOk rfl
theorem on_load1 {qa:Operand}:oK E lim none none mask (.load1 qa) fr H Q=opK (aOp lim none (.load1 qa) (ev fr) H) Q:=zOn rfl
theorem ob_load1 {qa:Operand}:oK E lim (some b) dest mask (.load1 qa) fr H Q=opK (aOp lim (dest.map (b+·)) (.load1 qa) (ev fr) (zMh b mask H)) fun v H'=>Q v (zUm b mask H H'):=zOk rfl
theorem on_loadN {qn:Nat} {qa:Operand}:oK E lim none none mask (.loadN qn qa) fr H Q=opK (aOp lim none (.loadN qn qa) (ev fr) H) Q:=zOn rfl
theorem ob_loadR {qn:Option Nat} {qa:Operand}:oK E lim (some b) dest mask (.loadR qn qa) fr H Q=opK (aOp lim (dest.map (b+·)) (.loadR qn qa) (ev fr) (zMh b mask H)) fun v H'=>Q v (zUm b mask H H'):=zOk rfl
theorem ob_loadN {qn:Nat} {qa:Operand}:oK E lim (some b) dest mask (.loadN qn qa) fr H Q=opK (aOp lim (dest.map (b+·)) (.loadN qn qa) (ev fr) (zMh b mask H)) fun v H'=>Q v (zUm b mask H H'):=zOk rfl
theorem ob_loadO {qn:Option Nat} {qa qb:Operand}:oK E lim (some b) dest mask (.loadO qn qa qb) fr H Q=opK (aOp lim (dest.map (b+·)) (.loadO qn qa qb) (ev fr) (zMh b mask H)) fun v H'=>Q v (zUm b mask H H'):=zOk rfl
theorem ob_storeN {qn:Nat} {qa qx:Operand}:oK E lim (some b) dest mask (.storeN qn qa qx) fr H Q=opK (aOp lim (dest.map (b+·)) (.storeN qn qa qx) (ev fr) (zMh b mask H)) fun v H'=>Q v (zUm b mask H H'):=zOk rfl
theorem ob_storeO {qn:Nat} {qa qx qb:Operand}:oK E lim (some b) dest mask (.storeO qn qa qx qb) fr H Q=opK (aOp lim (dest.map (b+·)) (.storeO qn qa qx qb) (ev fr) (zMh b mask H)) fun v H'=>Q v (zUm b mask H H'):=zOk rfl
theorem ob_storeD {b qn:Nat} {qa qx:Operand}:oK E lim (some b) dest mask (.storeD qn qa qx) fr H Q=opK (aOp lim (dest.map (b+·)) (.storeD qn qa qx) (ev fr) (zMh b mask H)) fun v H'=>Q v (zUm b mask H H'):=zOk rfl
theorem on_store {qn:Nat} {qa qx:Operand}:oK E lim none none mask (.store qn qa qx) fr H Q=opK (aOp lim none (.store qn qa qx) (ev fr) H) Q:=zOn rfl
theorem ob_store {qn:Nat} {qa qx:Operand}:oK E lim (some b) dest mask (.store qn qa qx) fr H Q=opK (aOp lim (dest.map (b+·)) (.store qn qa qx) (ev fr) (zMh b mask H)) fun v H'=>Q v (zUm b mask H H'):=zOk rfl
theorem on_nilCheck {qx:Operand}:oK E lim none none mask (.nilCheck qx) fr H Q=opK (aOp lim none (.nilCheck qx) (ev fr) H) Q:=zOn rfl
theorem ob_nilCheck {qx:Operand}:oK E lim (some b) dest mask (.nilCheck qx) fr H Q=opK (aOp lim (dest.map (b+·)) (.nilCheck qx) (ev fr) (zMh b mask H)) fun v H'=>Q v (zUm b mask H H'):=zOk rfl
theorem on_fieldAddr {qoff:Nat} {qa:Operand}:oK E lim none none mask (.fieldAddr qoff qa) fr H Q=opK (aOp lim none (.fieldAddr qoff qa) (ev fr) H) Q:=zOn rfl
theorem ob_fieldAddr {qoff:Nat} {qa:Operand}:oK E lim (some b) dest mask (.fieldAddr qoff qa) fr H Q=opK (aOp lim (dest.map (b+·)) (.fieldAddr qoff qa) (ev fr) (zMh b mask H)) fun v H'=>Q v (zUm b mask H H'):=zOk rfl
theorem on_field1 {qoff:Nat} {qx:Operand}:oK E lim none none mask (.field1 qoff qx) fr H Q=opK (aOp lim none (.field1 qoff qx) (ev fr) H) Q:=zOn rfl
theorem ob_field1 {qoff:Nat} {qx:Operand}:oK E lim (some b) dest mask (.field1 qoff qx) fr H Q=opK (aOp lim (dest.map (b+·)) (.field1 qoff qx) (ev fr) (zMh b mask H)) fun v H'=>Q v (zUm b mask H H'):=zOk rfl
theorem on_fieldN {qoff qn:Nat} {qx:Operand}:oK E lim none none mask (.fieldN qoff qn qx) fr H Q=opK (aOp lim none (.fieldN qoff qn qx) (ev fr) H) Q:=zOn rfl
theorem ob_fieldN {qoff qn:Nat} {qx:Operand}:oK E lim (some b) dest mask (.fieldN qoff qn qx) fr H Q=opK (aOp lim (dest.map (b+·)) (.fieldN qoff qn qx) (ev fr) (zMh b mask H)) fun v H'=>Q v (zUm b mask H H'):=zOk rfl
theorem on_idxAddrA {qlen qesz:Nat} {qx qi:Operand}:oK E lim none none mask (.idxAddrA qlen qesz qx qi) fr H Q=opK (aOp lim none (.idxAddrA qlen qesz qx qi) (ev fr) H) Q:=zOn rfl
theorem ob_idxAddrA {qlen qesz:Nat} {qx qi:Operand}:oK E lim (some b) dest mask (.idxAddrA qlen qesz qx qi) fr H Q=opK (aOp lim (dest.map (b+·)) (.idxAddrA qlen qesz qx qi) (ev fr) (zMh b mask H)) fun v H'=>Q v (zUm b mask H H'):=zOk rfl
theorem on_idxA {qlen qesz:Nat} {qagg:Bool} {qx qi:Operand}:oK E lim none none mask (.idxA qlen qesz qagg qx qi) fr H Q=opK (aOp lim none (.idxA qlen qesz qagg qx qi) (ev fr) H) Q:=zOn rfl
theorem ob_idxA {qlen qesz:Nat} {qagg:Bool} {qx qi:Operand}:oK E lim (some b) dest mask (.idxA qlen qesz qagg qx qi) fr H Q=opK (aOp lim (dest.map (b+·)) (.idxA qlen qesz qagg qx qi) (ev fr) (zMh b mask H)) fun v H'=>Q v (zUm b mask H H'):=zOk rfl
theorem on_idxStr {qx qi:Operand}:oK E lim none none mask (.idxStr qx qi) fr H Q=opK (aOp lim none (.idxStr qx qi) (ev fr) H) Q:=zOn rfl
theorem ob_idxStr {qx qi:Operand}:oK E lim (some b) dest mask (.idxStr qx qi) fr H Q=opK (aOp lim (dest.map (b+·)) (.idxStr qx qi) (ev fr) (zMh b mask H)) fun v H'=>Q v (zUm b mask H H'):=zOk rfl
theorem on_sliceS {qesz:Nat} {qx:Operand} {qlo qhi qmx:Option Operand}:oK E lim none none mask (.sliceS qesz qx qlo qhi qmx) fr H Q=opK (aOp lim none (.sliceS qesz qx qlo qhi qmx) (ev fr) H) Q:=zOn rfl
theorem ob_sliceS {qesz:Nat} {qx:Operand} {qlo qhi qmx:Option Operand}:oK E lim (some b) dest mask (.sliceS qesz qx qlo qhi qmx) fr H Q=opK (aOp lim (dest.map (b+·)) (.sliceS qesz qx qlo qhi qmx) (ev fr) (zMh b mask H)) fun v H'=>Q v (zUm b mask H H'):=zOk rfl
theorem on_sliceStr {qx:Operand} {qlo qhi:Option Operand}:oK E lim none none mask (.sliceStr qx qlo qhi) fr H Q=opK (aOp lim none (.sliceStr qx qlo qhi) (ev fr) H) Q:=zOn rfl
theorem ob_sliceStr {qx:Operand} {qlo qhi:Option Operand}:oK E lim (some b) dest mask (.sliceStr qx qlo qhi) fr H Q=opK (aOp lim (dest.map (b+·)) (.sliceStr qx qlo qhi) (ev fr) (zMh b mask H)) fun v H'=>Q v (zUm b mask H H'):=zOk rfl
theorem on_lenStr {qx:Operand}:oK E lim none none mask (.lenStr qx) fr H Q=opK (aOp lim none (.lenStr qx) (ev fr) H) Q:=zOn rfl
theorem ob_lenStr {qx:Operand}:oK E lim (some b) dest mask (.lenStr qx) fr H Q=opK (aOp lim (dest.map (b+·)) (.lenStr qx) (ev fr) (zMh b mask H)) fun v H'=>Q v (zUm b mask H H'):=zOk rfl
theorem on_capSlice {qx:Operand}:oK E lim none none mask (.capSlice qx) fr H Q=opK (aOp lim none (.capSlice qx) (ev fr) H) Q:=zOn rfl
theorem ob_capSlice {qx:Operand}:oK E lim (some b) dest mask (.capSlice qx) fr H Q=opK (aOp lim (dest.map (b+·)) (.capSlice qx) (ev fr) (zMh b mask H)) fun v H'=>Q v (zUm b mask H H'):=zOk rfl
theorem on_lenSlice {qx:Operand}:oK E lim none none mask (.lenSlice qx) fr H Q=opK (aOp lim none (.lenSlice qx) (ev fr) H) Q:=zOn rfl
theorem ob_lenSlice {qx:Operand}:oK E lim (some b) dest mask (.lenSlice qx) fr H Q=opK (aOp lim (dest.map (b+·)) (.lenSlice qx) (ev fr) (zMh b mask H)) fun v H'=>Q v (zUm b mask H H'):=zOk rfl
theorem on_lenMap {qx:Operand}:oK E lim none none mask (.lenMap qx) fr H Q=opK (aOp lim none (.lenMap qx) (ev fr) H) Q:=zOn rfl
theorem ob_lenMap {qx:Operand}:oK E lim (some b) dest mask (.lenMap qx) fr H Q=opK (aOp lim (dest.map (b+·)) (.lenMap qx) (ev fr) (zMh b mask H)) fun v H'=>Q v (zUm b mask H H'):=zOk rfl
theorem on_lenK {qn:Nat}:oK E lim none none mask (.lenK qn) fr H Q=opK (aOp lim none (.lenK qn) (ev fr) H) Q:=zOn rfl
theorem ob_lenK {qn:Nat}:oK E lim (some b) dest mask (.lenK qn) fr H Q=opK (aOp lim (dest.map (b+·)) (.lenK qn) (ev fr) (zMh b mask H)) fun v H'=>Q v (zUm b mask H H'):=zOk rfl
theorem on_append {qesz qbytes:Nat} {qstr:Bool} {qs qx:Operand}:oK E lim none none mask (.append qesz qbytes qstr qs qx) fr H Q=opK (aOp lim none (.append qesz qbytes qstr qs qx) (ev fr) H) Q:=zOn rfl
theorem ob_append {qesz qbytes:Nat} {qstr:Bool} {qs qx:Operand}:oK E lim (some b) dest mask (.append qesz qbytes qstr qs qx) fr H Q=opK (aOp lim (dest.map (b+·)) (.append qesz qbytes qstr qs qx) (ev fr) (zMh b mask H)) fun v H'=>Q v (zUm b mask H H'):=zOk rfl
theorem on_append0 {qesz qbytes:Nat} {qstr:Bool} {qs qx:Operand}:oK E lim none none mask (.append0 qesz qbytes qstr qs qx) fr H Q=opK (aOp lim none (.append0 qesz qbytes qstr qs qx) (ev fr) H) Q:=zOn rfl
theorem ob_append0 {qesz qbytes:Nat} {qstr:Bool} {qs qx:Operand}:oK E lim (some b) dest mask (.append0 qesz qbytes qstr qs qx) fr H Q=opK (aOp lim (dest.map (b+·)) (.append0 qesz qbytes qstr qs qx) (ev fr) (zMh b mask H)) fun v H'=>Q v (zUm b mask H H'):=zOk rfl
theorem on_minmax {qmx:Bool} {qxs:List Operand}:oK E lim none none mask (.minmax qmx qxs) fr H Q=opK (aOp lim none (.minmax qmx qxs) (ev fr) H) Q:=zOn rfl
theorem ob_minmax {qmx:Bool} {qxs:List Operand}:oK E lim (some b) dest mask (.minmax qmx qxs) fr H Q=opK (aOp lim (dest.map (b+·)) (.minmax qmx qxs) (ev fr) (zMh b mask H)) fun v H'=>Q v (zUm b mask H H'):=zOk rfl
theorem on_makeSlice {qesz qbytes:Nat} {qzero:List Value} {qlen qcap:Operand}:oK E lim none none mask (.makeSlice qesz qbytes qzero qlen qcap) fr H Q=opK (aOp lim none (.makeSlice qesz qbytes qzero qlen qcap) (ev fr) H) Q:=zOn rfl
theorem ob_makeSlice {qesz qbytes:Nat} {qzero:List Value} {qlen qcap:Operand}:oK E lim (some b) dest mask (.makeSlice qesz qbytes qzero qlen qcap) fr H Q=opK (aOp lim (dest.map (b+·)) (.makeSlice qesz qbytes qzero qlen qcap) (ev fr) (zMh b mask H)) fun v H'=>Q v (zUm b mask H H'):=zOk rfl
theorem on_growNil {qesz qbytes:Nat} {qzero:List Value} {qlen qcap:Operand}:oK E lim none none mask (.growNil qesz qbytes qzero qlen qcap) fr H Q=opK (aOp lim none (.growNil qesz qbytes qzero qlen qcap) (ev fr) H) Q:=zOn rfl
theorem ob_growNil {qesz qbytes:Nat} {qzero:List Value} {qlen qcap:Operand}:oK E lim (some b) dest mask (.growNil qesz qbytes qzero qlen qcap) fr H Q=opK (aOp lim (dest.map (b+·)) (.growNil qesz qbytes qzero qlen qcap) (ev fr) (zMh b mask H)) fun v H'=>Q v (zUm b mask H H'):=zOk rfl
theorem on_makeMap {qhint:Option Operand}:oK E lim none none mask (.makeMap qhint) fr H Q=opK (aOp lim none (.makeMap qhint) (ev fr) H) Q:=zOn rfl
theorem ob_makeMap {qhint:Option Operand}:oK E lim (some b) dest mask (.makeMap qhint) fr H Q=opK (aOp lim (dest.map (b+·)) (.makeMap qhint) (ev fr) (zMh b mask H)) fun v H'=>Q v (zUm b mask H H'):=zOk rfl
theorem on_lookup {qkk:KK} {qzero:Value} {qok:Bool} {qm qkey:Operand}:oK E lim none none mask (.lookup qkk qzero qok qm qkey) fr H Q=opK (aOp lim none (.lookup qkk qzero qok qm qkey) (ev fr) H) Q:=zOn rfl
theorem ob_lookup {qkk:KK} {qzero:Value} {qok:Bool} {qm qkey:Operand}:oK E lim (some b) dest mask (.lookup qkk qzero qok qm qkey) fr H Q=opK (aOp lim (dest.map (b+·)) (.lookup qkk qzero qok qm qkey) (ev fr) (zMh b mask H)) fun v H'=>Q v (zUm b mask H H'):=zOk rfl
theorem on_mapUpdate {qkk:KK} {qm qkey qv:Operand}:oK E lim none none mask (.mapUpdate qkk qm qkey qv) fr H Q=opK (aOp lim none (.mapUpdate qkk qm qkey qv) (ev fr) H) Q:=zOn rfl
theorem ob_mapUpdate {qkk:KK} {qm qkey qv:Operand}:oK E lim (some b) dest mask (.mapUpdate qkk qm qkey qv) fr H Q=opK (aOp lim (dest.map (b+·)) (.mapUpdate qkk qm qkey qv) (ev fr) (zMh b mask H)) fun v H'=>Q v (zUm b mask H H'):=zOk rfl
theorem on_mapEntry {qkk:KK} {qz:Value} {qm qkey:Operand}:oK E lim none none mask (.mapEntry qkk qz qm qkey) fr H Q=opK (aOp lim none (.mapEntry qkk qz qm qkey) (ev fr) H) Q:=zOn rfl
theorem ob_mapEntry {qkk:KK} {qz:Value} {qm qkey:Operand}:oK E lim (some b) dest mask (.mapEntry qkk qz qm qkey) fr H Q=opK (aOp lim (dest.map (b+·)) (.mapEntry qkk qz qm qkey) (ev fr) (zMh b mask H)) fun v H'=>Q v (zUm b mask H H'):=zOk rfl
theorem on_entryStore {qm qs qv:Operand}:oK E lim none none mask (.entryStore qm qs qv) fr H Q=opK (aOp lim none (.entryStore qm qs qv) (ev fr) H) Q:=zOn rfl
theorem ob_entryStore {qm qs qv:Operand}:oK E lim (some b) dest mask (.entryStore qm qs qv) fr H Q=opK (aOp lim (dest.map (b+·)) (.entryStore qm qs qv) (ev fr) (zMh b mask H)) fun v H'=>Q v (zUm b mask H H'):=zOk rfl
theorem on_clear {qz:List Value} {qx:Operand}:oK E lim none none mask (.clear qz qx) fr H Q=opK (aOp lim none (.clear qz qx) (ev fr) H) Q:=zOn rfl
theorem ob_clear {qz:List Value} {qx:Operand}:oK E lim (some b) dest mask (.clear qz qx) fr H Q=opK (aOp lim (dest.map (b+·)) (.clear qz qx) (ev fr) (zMh b mask H)) fun v H'=>Q v (zUm b mask H H'):=zOk rfl
theorem on_delete {qkk:KK} {qm qkey:Operand}:oK E lim none none mask (.delete qkk qm qkey) fr H Q=opK (aOp lim none (.delete qkk qm qkey) (ev fr) H) Q:=zOn rfl
theorem ob_delete {qkk:KK} {qm qkey:Operand}:oK E lim (some b) dest mask (.delete qkk qm qkey) fr H Q=opK (aOp lim (dest.map (b+·)) (.delete qkk qm qkey) (ev fr) (zMh b mask H)) fun v H'=>Q v (zUm b mask H H'):=zOk rfl
theorem on_makeFunc {qf:FuncId} {qfirst qcaptured:List Operand}:oK E lim none none mask (.makeFunc qf qfirst qcaptured) fr H Q=opK (aOp lim none (.makeFunc qf qfirst qcaptured) (ev fr) H) Q:=zOn rfl
theorem ob_makeFunc {qf:FuncId} {qfirst qcaptured:List Operand}:oK E lim (some b) dest mask (.makeFunc qf qfirst qcaptured) fr H Q=opK (aOp lim (dest.map (b+·)) (.makeFunc qf qfirst qcaptured) (ev fr) (zMh b mask H)) fun v H'=>Q v (zUm b mask H H'):=zOk rfl
theorem on_extract {qi:Nat} {qx:Operand}:oK E lim none none mask (.extract qi qx) fr H Q=opK (aOp lim none (.extract qi qx) (ev fr) H) Q:=zOn rfl
theorem ob_extract {qi:Nat} {qx:Operand}:oK E lim (some b) dest mask (.extract qi qx) fr H Q=opK (aOp lim (dest.map (b+·)) (.extract qi qx) (ev fr) (zMh b mask H)) fun v H'=>Q v (zUm b mask H H'):=zOk rfl
theorem on_rowMark {qx:Operand}:oK E lim none none mask (.rowMark qx) fr H Q=opK (aOp lim none (.rowMark qx) (ev fr) H) Q:=zOn rfl
theorem ob_rowMark {qx:Operand}:oK E lim (some b) dest mask (.rowMark qx) fr H Q=opK (aOp lim (dest.map (b+·)) (.rowMark qx) (ev fr) (zMh b mask H)) fun v H'=>Q v (zUm b mask H H'):=zOk rfl
theorem on_strId {qx:Operand}:oK E lim none none mask (.strId qx) fr H Q=opK (aOp lim none (.strId qx) (ev fr) H) Q:=zOn rfl
theorem ob_strId {qx:Operand}:oK E lim (some b) dest mask (.strId qx) fr H Q=opK (aOp lim (dest.map (b+·)) (.strId qx) (ev fr) (zMh b mask H)) fun v H'=>Q v (zUm b mask H H'):=zOk rfl
end
section
variable {E:Env} {af:zAf} {lim:Nat} {K:List zAi} {fr:Nat→Value} {H:zH} {R:Value→zH→Prop}
theorem Ret_is {base g o dest mask l} {d:Nat} (hd:d<af.ntmps):Ret E af lim (.ops base (⟨some d,g,o,dest,mask⟩::l)::K) fr H R =
  gK af.ntmps fr g (oK E lim base dest mask o fr H fun v H'=>Ret E af lim (.ops base l::K) (upd fr d v) H' R) (Ret E af lim (.ops base l::K) (upd fr d undef) H R):=Ret_i (d:=some d) (by simp [dOk,hd])
theorem Ret_in {base g o dest mask l}:Ret E af lim (.ops base (⟨none,g,o,dest,mask⟩::l)::K) fr H R =
  gK af.ntmps fr g (oK E lim base dest mask o fr H fun v H'=>Ret E af lim (.ops base l::K) fr H' R) (Ret E af lim (.ops base l::K) fr H R):=Ret_i (d:=none) rfl
end
section
variable {E:Env} {af:zAf} {lim:Nat} {K:List zAi} {fr:Nat→Value} {H:zH} {R:Value→zH→Prop}
end
section
variable {p q:Prop} {c:Prop} [Decidable c]
theorem wantK_tt:wantK (.bool true) true p q=p:=by simp [wantK]
theorem wantK_ff:wantK (.bool false) false p q=p:=by simp [wantK]
theorem wantK_tf:wantK (.bool true) false p q=q:=by simp [wantK]
theorem wantK_ft:wantK (.bool false) true p q=q:=by simp [wantK]
theorem condK_tt:condK (.bool true) p q=p:=rfl
theorem condK_ff:condK (.bool false) p q=q:=rfl
theorem wantK_dec {b:Bool} (h1:c→wantK (.bool true) b p q) (h2:¬c→wantK (.bool false) b p q):wantK (.bool (decide c)) b p q:=by
 by_cases h:c
 ·rw [decide_eq_true h];exact h1 h
 ·rw [decide_eq_false h];exact h2 h
theorem condK_dec (h1:c→p) (h2:¬c→q):condK (.bool (decide c)) p q:=by
 by_cases h:c
 ·rw [decide_eq_true h];exact h1 h
 ·rw [decide_eq_false h];exact h2 h
theorem wantK_any {t b:Bool} (h1:t=true→wantK (.bool true) b p q) (h2:t=false→wantK (.bool false) b p q):wantK (.bool t) b p q:=by
 cases t
 ·exact h2 rfl
 ·exact h1 rfl
theorem condK_any {t:Bool} (h1:t=true→p) (h2:t=false→q):condK (.bool t) p q:=by
 cases t
 ·exact h2 rfl
 ·exact h1 rfl
theorem int_beq {a b:Int}:(a == b)=decide (a=b):=by by_cases h:a=b<;>simp [h]
theorem int_bne {a b:Int}:(a != b)=decide (¬a=b):=by by_cases h:a=b<;>simp [h,bne]
theorem not_dec:(!decide c)=decide (¬c):=by by_cases h:c<;>simp [h]
end
def fillV (off size:Nat) (v:Value) (c:List Value):Option (List Value):=
 if v.cells.toList.length=size∧off+size≤c.length∧zTu v=true then some (setAll c off v.cells.toList) else none
def fillK (ρ:Operand→Value) (rest:List (Nat×Nat×Operand)) (r:Option (List Value)):Option (List Value):=match r with | some c=>fillParts ρ rest c | none=>none
theorem fillParts_cons {ρ:Operand→Value} {off size:Nat} {x:Operand} {rest:List (Nat×Nat×Operand)} {c:List Value}:fillParts ρ ((off,size,x)::rest) c=fillK ρ rest (fillV off size (ρ x) c):=by
 unfold fillK fillV
 simp only [fillParts]
 split<;>rfl
theorem fillParts_nil {ρ:Operand→Value} {c:List Value}:fillParts ρ [] c=some c:=rfl
theorem fillK_some {ρ:Operand→Value} {rest:List (Nat×Nat×Operand)} {c:List Value}:fillK ρ rest (some c)=fillParts ρ rest c:=rfl
theorem fillK_congr {ρ:Operand→Value} {rest:List (Nat×Nat×Operand)} {r r':Option (List Value)} (h:r=r'):fillK ρ rest r=fillK ρ rest r':=by rw [h]
theorem fillV_congr {off size:Nat} {v v':Value} {c:List Value} (h:v=v'):fillV off size v c=fillV off size v' c:=by rw [h]
attribute [congr] fillK_congr fillV_congr
theorem fillV_one {off:Nat} {v:Value} {c:List Value} (hv:v.oneCell'=true) (ht:zTu v=true) (h:off<c.length):fillV off 1 v c=some (c.set off v):=by
 cases v<;>first | (simp [Value.oneCell'] at hv;done) | (simp [zTu] at ht;done) | (unfold fillV;rw [if_pos ⟨by simp [Value.cells],h,ht⟩];rfl)
theorem fillV_int {off:Nat} {k:IntKind} {n:Int} {c:List Value} (h:off<c.length):fillV off 1 (.int k n) c=some (c.set off (.int k n)):=fillV_one rfl rfl h
theorem fillV_bool {off:Nat} {b:Bool} {c:List Value} (h:off<c.length):fillV off 1 (.bool b) c=some (c.set off (.bool b)):=fillV_one rfl rfl h
theorem fillV_func {off:Nat} {f:Fn} {a b:Array Value} {c:List Value} (h:off<c.length):fillV off 1 (.func f a b) c=some (c.set off (.func f a b)):=fillV_one rfl rfl h
theorem fillV_agg {off n:Nat} {l c:List Value} (h:l.length=n∧off+n≤c.length):fillV off n (.agg l.toArray) c=some (setAll c off l):=by
 unfold fillV
 rw [if_pos ⟨by simpa [Value.cells] using h.1,h.2,rfl⟩]
 rfl
theorem setAll_nil {c:List Value} {o:Nat}:setAll c o []=c:=rfl
theorem setAll_cons {c:List Value} {o:Nat} {v:Value} {vs:List Value}:setAll c o (v::vs)=setAll (c.set o v) (o+1) vs:=rfl
section
variable {fr:Nat→Value} {H:zH}
theorem cells_agg {a:Array Value}:(Value.agg a).cells=a:=rfl
theorem cells_int {k:IntKind} {n:Int}:(Value.int k n).cells=#[.int k n]:=rfl
theorem cells_bool {b:Bool}:(Value.bool b).cells=#[.bool b]:=rfl
theorem arr_list {l:List Value}:l.toArray.toList=l:=rfl
theorem arr_size {l:List Value}:l.toArray.size=l.length:=rfl
def consK:Option Value→Option (List Value)→Option (List Value)
 | some v,some vs=>some (v::vs)
 | _,_=>none
def finK:Option (List Value)→Option Value
 | some [v]=>some v
 | some vs=>some (.tuple vs.toArray)
 | none=>none
theorem resAll_nil:resAll fr H []=some []:=rfl
theorem resAll_cons {r:ARes} {rs:List ARes}:resAll fr H (r::rs)=consK (zRe fr H r) (resAll fr H rs):=by
 unfold consK
 simp only [resAll]
 cases zRe fr H r<;>cases resAll fr H rs<;>rfl
theorem result_fin {rs:List ARes}:result fr H rs=finK (resAll fr H rs):=by
 unfold finK result
 cases resAll fr H rs<;>rfl
theorem consK_some {v:Value} {vs:List Value}:consK (some v) (some vs)=some (v::vs):=rfl
theorem finK_one {v:Value}:finK (some [v])=some v:=rfl
theorem finK_more {v u:Value} {vs:List Value}:finK (some (v::u::vs))=some (.tuple (v::u::vs).toArray):=rfl
theorem finK_nil:finK (some [])=some (.tuple #[]):=rfl
end
def idxK (e:Nat) (x i:Value) (H:zH):Option (Value×zH):=match x,i with
    | .slice (some p) len _,.int _ n=>if 0≤n∧n<(len:Int) then some (.pointer (some (p.add (n.toNat*e))),H) else none
    | _,_=>none
theorem aOp_idxS {lim:Nat} {dest:Option Nat} {e:Nat} {x i:Operand} {ρ:Operand→Value} {H:zH}:aOp lim dest (.idxAddrS e x i) ρ H=idxK e (ρ x) (ρ i) H:=by
 simp only [aOp];unfold idxK;rfl
theorem idxK_nat {e n len c:Nat} {p:Addr} {k:IntKind} {H:zH} (h:n<len):idxK e (.slice (some p) len c) (.int k (n:Int)) H=some (.pointer (some (p.add (n*e))),H):=by
 unfold idxK
 simp only
 rw [if_pos ⟨by omega,by omega⟩]
 simp
section
variable {E:Env} {lim b:Nat} {dest:Option Nat} {mask:List Nat} {fr:Nat→Value} {H:zH} {Q:Value→zH→Prop}
theorem on_idxAddrS {e:Nat} {x i:Operand}:oK E lim none none mask (.idxAddrS e x i) fr H Q=opK (idxK e (ev fr x) (ev fr i) H) Q:=by rw [zOn rfl,aOp_idxS]
theorem ob_idxAddrS {e:Nat} {x i:Operand}:oK E lim (some b) dest mask (.idxAddrS e x i) fr H Q=opK (idxK e (ev fr x) (ev fr i) (zMh b mask H)) fun v H'=>Q v (zUm b mask H H'):=by rw [zOk rfl,aOp_idxS]
end
theorem addr_add {b o n:Nat}:(⟨b,o,none⟩:Addr).add n=⟨b,o+n,none⟩:=by
 simp only [Addr.add]
 first | rfl | (split<;>simp_all)
theorem zWn {n:Nat} (h:n+1<2 ^ 63):IntKind.i64.wrap ((n:Int)+1)=((n+1:Nat):Int):=by
 have h1:((n:Int)+1) % 2 ^ 64=(n:Int)+1:=Int.emod_eq_of_lt (by omega) (by omega)
 simp only [IntKind.wrap,IntKind.bits,IntKind.signed,h1]
 rw [if_neg (by simp;omega)]
 omega
section
variable {b i:Nat} {l:List Nat} {H H0:zH}
theorem mask_cons:zMh b (i::l) H=zMh b l (H.set (b+i) .dead):=rfl
theorem unmask_cons:zUm b (i::l) H0 H=zUm b l H0 (H.set (b+i) (zG H0 (b+i))):=rfl
theorem pad_one:List.replicate 1 Blk.dead=[.dead]:=rfl
theorem pad_zero:List.replicate 0 Blk.dead=[]:=rfl
theorem pad_two:List.replicate 2 Blk.dead=[.dead,.dead]:=rfl
theorem pad_three:List.replicate 3 Blk.dead=[.dead,.dead,.dead]:=rfl
end
end Go.AM

