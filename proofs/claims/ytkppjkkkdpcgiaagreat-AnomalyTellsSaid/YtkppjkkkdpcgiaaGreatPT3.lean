/-
  Joined texts, 3 of 11. A part of the claim that the last text states.
-/
import Derived.Laws.IdiomRangeMap
import Derived.Below
import Derived.Test.YtkppjkkkdpcgiaaGreatPT2
set_option linter.unusedVariables false
set_option linter.unusedSimpArgs false
set_option linter.defProp false
set_option linter.unusedSectionVars false
set_option maxRecDepth 100000
set_option maxHeartbeats 4000000
namespace Go.AM
variable {α β:Type} {u:Option (Nat×List Value)} {X:List (List Value)} {dest:Option Nat} {ρ:Operand->Value} {N m:Nat} {H H':NA} {o:AOp} {run:AFunc->Nat->List AItem->(Nat->Value)->NA->Option (List (Value×NA))} {v:Value} {fr:Nat->Value} {r:List β}
def CLe (C a:Ul):Prop:=∀mp lim g as H r,C mp lim g as H=some r->a mp lim g as H=some r
theorem Ncb {C c:Ul} (h:CLe C c) {lim:Nat} {r} (a:R6 C lim dest o ρ H=some r):R6 c lim dest o ρ H=some r:=by
 by_cases hc:∃mp f args,o=.call mp f args
 ·obtain ⟨mp,f,args,rfl⟩:=hc;simp only [R6] at a⊢;split at a
  ·exact Nwc (fun p hp=>h _ _ _ _ _ _ hp) a
  ·cases a
 ·have b:∀mp f args,o≠.call mp f args:=fun mp f args e=>hc ⟨mp,f,args,e⟩
  rw [PD b] at a⊢;exact a
theorem M6 {C c:Ul} (h:CLe C c) {lim:Nat} {base:Option Nat} {i:AIns} {r} (a:TW C N lim base i fr H=some r):TW c N lim base i fr H=some r:=by
 unfold TW at a⊢;cases hv:Tc C N lim base i fr H with
 | none=>rw [hv] at a;cases a
 | some p=>
   have:Tc c N lim base i fr H=some p:=by
    unfold Tc at hv⊢;cases hw:RO N fr i.guard with
    | none=>rw [hw] at hv;cases hv
    | some b=>
      rw [hw] at hv;cases b with
      | false=>exact hv
      | true=>
        cases base with
        | none=>exact Ncb h hv
        | some b=>
          simp only at hv⊢;cases hs:R6 C lim (i.dest.map (b+·)) i.op (ev fr) (OI b i.mask H) with
          | none=>rw [hs] at hv;cases hv
          | some q=>rw [hs] at hv;rw [Ncb h hs];exact hv
   rw [hv] at a;rw [this];exact a
theorem Z9 {α β:Type} {f:α->Option β}:∀{l:List α} {r:List β},YX f l=some r->∀y∈r,∃x∈l,f x=some y
 | [],r,h,y,hy=>by cases h;cases hy
 | x::l,r,h,y,hy=>by
   simp only [YX] at h;split at h
   ·rename_i a b c d;cases h;rcases Ns.1 hy with rfl | hy
    ·exact ⟨x,by simp,c⟩
    ·obtain ⟨z,g,e⟩:=Z9 d y hy;exact ⟨z,by simp [g],e⟩
   ·cases h
theorem YW {α β:Type} {f:α->Option β}:∀{l:List α} {r:List β},YX f l=some r->∀x∈l,∃y∈r,f x=some y
 | [],r,h,x,hx=>by cases hx
 | z::l,r,h,x,hx=>by
   simp only [YX] at h;split at h
   ·rename_i a b c d;cases h;rcases Ns.1 hx with rfl | hx
    ·exact ⟨a,by simp,c⟩
    ·obtain ⟨y,g,e⟩:=YW d x hx;exact ⟨y,by simp [g],e⟩
   ·cases h
theorem Vv {α β:Type} {f:α->Option (List β)}:∀{l:List α} {r:List β},Uj f l=some r->∀x∈l,∃s,f x=some s/\∀y∈s,y∈r
 | [],r,h,x,hx=>by cases hx
 | z::l,r,h,x,hx=>by
   simp only [Uj] at h;split at h
   ·rename_i a b d g;cases h;rcases Ns.1 hx with rfl | hx
    ·exact ⟨a,d,fun y c=>by simp [c]⟩
    ·obtain ⟨s,hs,e⟩:=Vv g x hx;exact ⟨s,hs,fun y c=>by simp [e y c]⟩
   ·cases h
theorem Vw {α β:Type} {f:α->Option (List β)}:∀{l:List α} {r:List β},Uj f l=some r->∀y∈r,∃x∈l,∃s,f x=some s/\y∈s
 | [],r,h,y,hy=>by cases h;cases hy
 | z::l,r,h,y,hy=>by
   simp only [Uj] at h;split at h
   ·rename_i a b c d;cases h;rcases Ok.1 hy with hy | hy
    ·exact ⟨z,by simp,a,c,hy⟩
    ·obtain ⟨x,g,s,e,hs⟩:=Vw d y hy;exact ⟨x,by simp [g],s,e,hs⟩
   ·cases h
theorem Yv {α β:Type} {f g:α->Option (List β)}:∀{l:List α} {r:List β},(∀x∈l,∀s,f x=some s->g x=some s)->Uj f l=some r->Uj g l=some r
 | [],r,_,h=>h
 | z::l,r,hfg,h=>by
   simp only [Uj] at h⊢;split at h
   ·rename_i a b c d;rw [hfg z (by simp) a c,Yv (fun x e=>hfg x (by simp [e])) d];exact h
   ·cases h
theorem V9 {r:Option α} {L:List α} (h:one r=some L):∃x,r=some x/\L=[x]:=by
 cases r with
 | none=>cases h
 | some x=>cases h;exact ⟨x,rfl,rfl⟩
theorem SN {r:Option (List α)} {x:α} (h:oneOf r=some x):r=some [x]:=by
 unfold oneOf at h;split at h
 ·cases h;rfl
 ·cases h
def No1 (C a:Tw):Prop:=∀mp lim g as H r,C mp lim g as H=some r->a mp lim g as H=some r
theorem No1.det {C a:Tw} (h:No1 C a):CLe (det C) (det a):=fun mp lim g as H r b=>by
 unfold AM.det at b⊢;rw [h _ _ _ _ _ _ (SN b)];rfl
theorem Npe {C b:Tw} (h:No1 C b) {lim:Nat} {r} (a:YL C lim o ρ H=some r):YL b lim o ρ H=some r:=by
 by_cases hc:∃mp f args,o=.call mp f args
 ·obtain ⟨mp,f,args,rfl⟩:=hc;simp only [YL] at a⊢;split at a
  ·split at a
   ·rename_i L hL;rw [h _ _ _ _ _ _ hL];exact a
   ·cases a
  ·cases a
 ·cases o<;>first | exact a | exact absurd ⟨_,_,_,rfl⟩ hc
theorem Npc {C b:Tw} (h:No1 C b) {lim:Nat} {i:AIns} {r} (a:stepX C lim i ρ H=some r):stepX b lim i ρ H=some r:=by
 obtain ⟨d,g,o,c,m⟩:=i;unfold stepX at a⊢;cases c with
 | none=>exact Npe h a
 | some k=>exact a
theorem Nbv {C c:Tw} (h:No1 C c) {lim:Nat} {i:AIns} {r} (a:M5 C N lim i fr H=some r):M5 c N lim i fr H=some r:=by
 unfold M5 at a⊢;cases hw:RO N fr i.guard with
 | none=>rw [hw] at a;cases a
 | some b=>
   rw [hw] at a;cases b with
   | false=>exact a
   | true=>
     simp only at a⊢;split at a
     ·rename_i L hL;rw [Npc h hL];exact a
     ·cases a
theorem Xg {E:Env} {b:AFunc->Nat->List AItem->(Nat->Value)->NA->Option (List (Value×NA))} (h:∀af lim k fr H r,run af lim k fr H=some r->b af lim k fr H=some r):No1 (QV E run) (QV E b):=by
 intro mp lim g as H r a;unfold QV at a⊢;cases g with
 | inr i=>
   simp only at a⊢;split at a
   ·cases a
   rename_i hm;rw [Ng hm];split at a
   ·split at a
    ·rename_i hc;rw [Nl hc];exact h _ _ _ _ _ _ a
    ·cases a
   ·cases a
 | inl g=>
 simp only at a⊢;split at a
 ·exact a
 split at a
 ·exact a
 ·split at a
  ·cases a
  ·rename_i af c;split at a
   ·rename_i hp;rw [Nl hp];split at a
    ·rename_i v H1 l h1;rw [h _ _ _ _ _ _ h1];exact a
    ·cases a
   ·rename_i hp;rw [Ng hp];split at a
    ·cases a
    ·rename_i hm;rw [Ng hm];exact h _ _ _ _ _ _ a
theorem Ni2 (E:Env):∀(n:Nat) (af:AFunc) (lim:Nat) (k:List AItem) (fr:Nat->Value) (H:NA) (r),PK E n af lim k fr H=some r->PK E (n+1) af lim k fr H=some r
 | 0,_,_,_,_,_,_,h=>by simp [PK] at h
 | n+1,af,lim,k,fr,H,r,h=>by
   have ih:=Ni2 E n;rw [PK.eq_def] at h⊢;simp only at h⊢;cases k with
   | nil=>exact h
   | cons x k=>
     cases x with
     | inBlock id=>exact ih _ _ _ _ _ _ h
     | inLoop c=>exact ih _ _ _ _ _ _ h
     | begin i=>
       simp only at h⊢;split at h
       ·split at h
        ·rename_i hc;rw [Nl hc];exact ih _ _ _ _ _ _ h
        ·cases h
       ·cases h
     | round i=>exact h
     | mark i=>exact h
     | ops base l=>
       have e:=Xg (E:=E) fun d lim' k' fr' H' r h=>ih d lim' k' fr' H' r h
       cases l with
       | nil=>cases base<;>exact ih _ _ _ _ _ _ h
       | cons i l=>
         cases base with
         | none=>
           simp only at h⊢;split at h
           ·rename_i L g;rw [Nbv e g];exact Yv (fun r _ s hs=>ih _ _ _ _ _ _ hs) h
           ·cases h
         | some b=>
           simp only at h⊢;split at h
           ·rename_i fr' H' g;rw [M6 e.det g];exact ih _ _ _ _ _ _ h
           ·cases h
     | code c=>
       cases c<;>simp only at h⊢<;> first
        | exact ih _ _ _ _ _ _ h
        | exact h
        | skip
       case cond c a b=>
        cases hc:ev fr c<;>rw [hc] at h<;>first
         | (rename_i b;cases b<;>exact ih _ _ _ _ _ _ h)
         | (cases h;done)
       case exit id=>
        split at h
        ·exact ih _ _ _ _ _ _ h
        ·cases h
       case exitR id=>
        split at h
        ·exact ih _ _ _ _ _ _ h
        ·exact h
       case rangeF f ps a b=>
        split at h
        ·split at h
         ·rename_i L g;rw [Xg (fun d lim' k' fr' H' r h=>ih _ _ _ _ _ _ h) _ _ _ _ _ _ g];simp only;refine Yv (fun r _ s hs=>?_) h;split at hs
          ·rename_i x m;split at hs
           ·cases hs
           ·rename_i j;rw [Ng j];exact ih _ _ _ _ _ _ hs
          ·cases hs
         ·cases h
        ·cases h
theorem Wd (E:Env) {n:Nat} (h:n<=m) {af:AFunc} {lim:Nat} {k:List AItem} {r} (a:PK E n af lim k fr H=some r):PK E m af lim k fr H=some r:=by
 induction h with
 | refl=>exact a
 | step _ ih=>exact Ni2 E _ _ _ _ _ _ _ ih
theorem UU (E:Env) {n:Nat} (h:n<=m):No1 (R4 E n) (R4 E m):=Xg fun _ _ _ _ _ _ a=>Wd E h a
theorem Nhy (E:Env):∀(l:List AIns) (n:Nat) (af:AFunc) (lim b:Nat) (k:List AItem) (fr:Nat->Value) (H:NA) (r),PK E n af lim (.ops (some b) l::k) fr H=some r->
  ∃m fr' H',m<n/\Zk (det (R4 E (n-1))) af.ntmps lim (some b) l fr H=some (fr',H')/\PK E m af lim k fr' H'=some r
 | l,0,af,lim,b,k,fr,H,r,h=>by simp [PK] at h
 | [],n+1,af,lim,b,k,fr,H,r,h=>by
   rw [PK.eq_def] at h;exact ⟨n,fr,H,by omega,rfl,h⟩
 | i::l,n+1,af,lim,b,k,fr,H,r,h=>by
   rw [PK.eq_def] at h;simp only at h;split at h
   ·rename_i fr1 H1 g;obtain ⟨m,fr',H',h1,h2,e⟩:=Nhy E l n af lim b k fr1 H1 r h;refine ⟨m,fr',H',by omega, ?_,e⟩;have a:TW (det (R4 E (n+1-1))) af.ntmps lim (some b) i fr H=some (fr1,H1):=g;simp only [Zk,a];have mono:∀(l:List AIns) (fr:Nat->Value) (H:NA) r,Zk (det (R4 E (n-1))) af.ntmps lim (some b) l fr H=some r->Zk (det (R4 E (n+1-1))) af.ntmps lim (some b) l fr H=some r:=by
     intro l
     induction l with
     | nil=>intro fr H r h;exact h
     | cons i l ih=>
       intro fr H r h;obtain ⟨f,K,c,d⟩:=XD h;simp only [Zk,M6 (UU E (show n-1<=n+1-1 by omega)).det c];exact ih _ _ _ d
    exact mono _ _ _ _ h2
   ·cases h
def Y9 (C:Tw) (N lim:Nat):List AIns->(Nat->Value)->NA->Option (List ((Nat->Value)×NA))
 | [],fr,H=>some [(fr,H)]
 | i::l,fr,H=>match M5 C N lim i fr H with
   | some L=>Uj (fun r=>Y9 C N lim l r.1 r.2) L
   | none=>none
theorem Nfw {C a:Tw} (h:No1 C a) {N lim:Nat}:∀{l:List AIns} {fr:Nat->Value} {H:NA} {r},Y9 C N lim l fr H=some r->Y9 a N lim l fr H=some r
 | [],fr,H,r,hx=>hx
 | i::l,fr,H,r,hx=>by
   simp only [Y9] at hx⊢;split at hx
   ·rename_i L hL;rw [Nbv h hL];exact Yv (fun x _ s hs=>Nfw h hs) hx
   ·cases hx
theorem Yu {α β:Type} {f:α->Option (List β)}:∀{l:List α},(∀x∈l,∃s,f x=some s)->∃r,Uj f l=some r
 | [],_=>⟨[],rfl⟩
 | x::l,h=>by
   obtain ⟨s,hs⟩:=h x (by simp);obtain ⟨r,hr⟩:=Yu (f:=f) (l:=l) fun y a=>h y (by simp [a])
   exact ⟨s++r,by simp only [Uj,hs,hr]⟩
theorem Neu (E:Env):∀(l:List AIns) (n:Nat) (af:AFunc) (lim:Nat) (k:List AItem) (fr:Nat->Value) (H:NA) (R),PK E n af lim (.ops none l::k) fr H=some R->
  ∃L,Y9 (R4 E (n-1)) af.ntmps lim l fr H=some L/\∀r∈L,∃m b,m<n/\PK E m af lim k r.1 r.2=some b/\∀x∈b,x∈R
 | l,0,af,lim,k,fr,H,R,h=>by simp [PK] at h
 | [],n+1,af,lim,k,fr,H,R,h=>by
   rw [PK.eq_def] at h;refine ⟨[(fr,H)],rfl,fun r hr=>?_⟩;rw [Nq] at hr;subst hr;exact ⟨n,R,by omega,h,fun x j=>j⟩
 | i::l,n+1,af,lim,k,fr,H,R,h=>by
   rw [PK.eq_def] at h;simp only at h;split at h
   case h_2=>cases h
   rename_i L hL;have d:M5 (R4 E (n+1-1)) af.ntmps lim i fr H=some L:=hL;have each:∀r∈L,∃a,Y9 (R4 E (n+1-1)) af.ntmps lim l r.1 r.2=some a/\∀q∈a,∃m b,m<n+1/\PK E m af lim k q.1 q.2=some b/\∀x∈b,x∈R:=fun r hr=>by
    obtain ⟨s,hs,c⟩:=Vv h r hr;obtain ⟨a,h1,h2⟩:=Neu E l n af lim k r.1 r.2 s hs;refine ⟨a,Nfw (UU E (by omega)) h1,fun q e=>?_⟩;obtain ⟨m,b,u,p,t⟩:=h2 q e;exact ⟨m,b,by omega,p,fun x j=>c x (t x j)⟩
   obtain ⟨Q,o⟩:=Yu (f:=fun r:(Nat->Value)×NA=>Y9 (R4 E (n+1-1)) af.ntmps lim l r.1 r.2) (l:=L) fun r hr=>by
    obtain ⟨a,h1,_⟩:=each r hr;exact ⟨a,h1⟩
   refine ⟨Q,by simp only [Y9,d,o],fun q e=>?_⟩;obtain ⟨r,hr,s,hs,g⟩:=Vw o q e;obtain ⟨a,h1,h2⟩:=each r hr;rw [h1] at hs;cases hs;exact h2 q g
theorem Nj6 {f:α->Option β} {l:List α} (h:YX f l=some r) (hl:l≠[]):r≠[]:=by
 cases l with
 | nil=>exact absurd rfl hl
 | cons x l=>
   obtain ⟨y,a,_⟩:=YW h x (by simp);intro e;rw [e] at a;cases a
theorem Nof {f:α->Option (List β)} {l:List α} (h:Uj f l=some r) (hl:l≠[]) (b:∀x∈l,∀s,f x=some s->s≠[]):r≠[]:=by
 cases l with
 | nil=>exact absurd rfl hl
 | cons x l=>
   obtain ⟨s,hs,a⟩:=Vv h x (by simp);obtain ⟨y,c⟩:=Q7 _ (b x (by simp) s hs);intro e;have:=a y c;rw [e] at this;cases this
theorem N6h {C:Tw} (d:∀mp lim g as H L,C mp lim g as H=some L->L≠[]) {lim:Nat} {i:AIns} {L} (h:M5 C N lim i fr H=some L):L≠[]:=by
 have b:∀{α:Type} {r:Option α} {L:List α},r.map (fun r=>[r])=some L->L≠[]:=fun {α r L} h=>by
  simp only [Nd] at h;obtain ⟨p,_,rfl⟩:=h;simp
 unfold M5 at h;split at h
 ·cases h
 ·simp only [Nd] at h;obtain ⟨_,_,rfl⟩:=h;simp
 ·split at h
  case h_2=>cases h
  rename_i L0 a;refine Nj6 h ?_;unfold stepX at a;split at a
  ·unfold YL at a;split at a
   ·split at a
    case h_2=>cases a
    split at a
    case h_2=>cases a
    rename_i e c;exact Nj6 a (d _ _ _ _ _ _ c)
   ·exact b a
  unfold Nd5 at a;split at a
  ·exact b a
  ·unfold Mh at a
   repeat' (split at a)
   all_goals first
    | (cases a;done)
    | (cases a;simp;done)
    | exact Nj6 a (by simp)
  ·exact b a
  ·cases a
theorem Nc3 {E:Env} (h:∀af lim k fr H L,run af lim k fr H=some L->L≠[]):∀mp lim g as H L,QV E run mp lim g as H=some L->L≠[]:=by
 intro mp lim g as H L a;unfold QV at a;cases g with
 | inr i=>
   simp only at a
   repeat' (split at a)
   all_goals first | (cases a;done) | exact h _ _ _ _ _ _ a
 | inl g=>
   simp only at a
   repeat' (split at a)
   all_goals first | (cases a;done) | (cases a;simp;done) | exact h _ _ _ _ _ _ a
theorem ZN (E:Env):∀(n:Nat) (af:AFunc) (lim:Nat) (k:List AItem) (fr:Nat->Value) (H:NA) (L),PK E n af lim k fr H=some L->L≠[]
 | 0,_,_,_,_,_,_,h=>by simp [PK] at h
 | n+1,af,lim,k,fr,H,L,h=>by
   have ih:=ZN E n;have e:=Nc3 (E:=E) ih;have d:∀{r:Option (Value×NA)},one r=some L->L≠[]:=fun h=>by obtain ⟨x,_,rfl⟩:=V9 h;simp
   rw [PK.eq_def] at h;simp only at h;cases k with
   | nil=>exact d h
   | cons x k=>
     cases x with
     | inBlock id=>exact ih _ _ _ _ _ _ h
     | inLoop c=>exact ih _ _ _ _ _ _ h
     | begin i=>
       simp only at h;split at h
       ·split at h
        ·exact ih _ _ _ _ _ _ h
        ·cases h
       ·cases h
     | round i=>
       simp only at h;split at h
       ·exact d h
       ·cases h
     | mark i=>simp at h
     | ops base l=>
       cases l with
       | nil=>cases base<;>exact ih _ _ _ _ _ _ h
       | cons i l=>
         cases base with
         | none=>
           simp only at h;split at h
           ·rename_i L0 g;exact Nof h (N6h e g) fun r _ s hs=>ih _ _ _ _ _ _ hs
           ·cases h
         | some b=>
           simp only at h;split at h
           ·exact ih _ _ _ _ _ _ h
           ·cases h
     | code c=>
       cases c<;>simp only at h<;>first
        | exact ih _ _ _ _ _ _ h
        | exact d h
        | skip
       case cond c a b=>
        cases hc:ev fr c<;>rw [hc] at h<;>first
         | (rename_i b;cases b<;>exact ih _ _ _ _ _ _ h)
         | (cases h;done)
       case exit id=>
        split at h
        ·exact ih _ _ _ _ _ _ h
        ·cases h
       case retM=>
        split at h
        ·exact d h
        ·cases h
       case retR=>
        split at h
        ·split at h
         ·exact d h
         ·cases h
        ·cases h
       case exitR id=>
        split at h
        ·exact ih _ _ _ _ _ _ h
        ·split at h
         ·split at h
          ·exact d h
          ·cases h
         ·cases h
       case rangeF f ps a b=>
        split at h
        ·split at h
         ·rename_i L0 g;refine Nof h (e _ _ _ _ _ _ g) fun r _ s hs=>?_
          split at hs
          ·split at hs
           ·cases hs
           ·exact ih _ _ _ _ _ _ hs
          ·cases hs
         ·cases h
        ·cases h
theorem Nop (E:Env) {n:Nat} {mp:Bool} {lim:Nat} {g:FuncId ⊕ Nat} {as:List Value} {L} (h:R4 E n mp lim g as H=some L):L≠[]:=Nc3 (ZN E n) _ _ _ _ _ _ h
theorem Njd {lim:Nat} {a:Addr} {vs:List Value} (h:storeAt lim H a vs=some H'):H.length<=H'.length:=by rw [U4 h];exact Nf _
theorem Wj {b:Blk}:H.length<=(place dest b H).2.length:=by
 cases dest<;>simp [place]
theorem Ni4 (hL:isL o=false) {lim:Nat} (hn:kind o≠.n) (h:NL lim dest o ρ H=some (v,H')):H.length<=H'.length:=by
 cases hk:kind o with
 | n=>exact absurd hk hn
 | p=>rw [(N1p hk h).1];exact Nf _
 | r=>
   by_cases hc:∃mp f args,o=.call mp f args
   ·obtain ⟨mp,f,args,rfl⟩:=hc;simp [NL] at h
   ·rw [YZ hk (fun mp f args e=>hc ⟨mp,f,args,e⟩) h];exact Nf _
 | c=>
   cases o<;>simp [kind] at hk;simp [NL] at h
 | a=>
   cases o<;>simp [kind] at hk<;>simp only [NL] at h
   case alloc=>cases h;exact Wj
   case box=>
    split at h
    case isFalse=>cases h
    cases h;exact Wj
   case buildSlice=>
    split at h
    case h_2=>cases h
    cases h;exact Wj
   case makeSlice=>
    split at h
    case h_2=>cases h
    split at h
    case isFalse=>cases h
    cases h;exact Wj
   case growNil=>
    split at h
    case h_2=>cases h
    split at h
    case isFalse=>cases h
    cases h;exact Wj
   case makeMap=>
    split at h
    case h_2=>cases h
    cases h;exact Wj
   case call mp f args=>split at hk<;>cases hk
 | s=>
   have hs:=VB hk;cases o<;>simp [YD] at hs;have h':=WS h;simp only [ZQ] at h';rw [YY (o:=.store _ _ _) rfl rfl h'];exact Nf _
 | w=>
   cases hm:makes o with
   | false=>rw [YY hk hm h];exact Nf _
   | true=>
     cases dest with
     | some d=>rw [Ya hk h];exact Nf _
     | none=>
       have b:∃esz bytes str s x,o=.append esz bytes str s x:=by
        cases o<;>simp [makes,kind] at hm<;>(try (simp [kind] at hk;done))
        case append=>exact ⟨_,_,_,_,_,rfl⟩
        case appendL=>simp [isL] at hL
        all_goals (exfalso;simp [kind] at hk;try (split at hk<;>cases hk))
       obtain ⟨esz,bytes,str,s,x,rfl⟩:=b;simp only [NL] at h;unfold OP at h;split at h
       case h_2=>cases h
       split at h
       ·cases h
       split at h
       ·cases h;exact Nf _
       split at h
       ·split at h
        ·cases h;simp []
        ·cases h
       ·split at h
        ·cases h
        split at h
        ·split at h
         ·split at h
          ·cases h;simp []
          ·cases h
         ·cases h
        ·split at h
         ·split at h
          ·split at h
           ·rename_i h1;cases h;exact Njd h1
           ·cases h
          ·cases h;simp []
         ·cases h
theorem Non {lim:Nat} (hn:kind o≠.n) (h:NL lim dest o ρ H=some (v,H')):H.length<=H'.length:=by
 cases hL:isL o with
 | false=>exact Ni4 hL hn h
 | true=>obtain ⟨_,_,h1,h2,_⟩:=Nds hL;exact Ni4 h1 (by rw [h2];simp) (WS h)
theorem Ntn {lim:Nat} (h:NL lim dest o ρ H=some (v,H')):H.length<=H'.length:=by
 by_cases hn:kind o=.n
 ·cases o<;>(try (simp [kind] at hn;done))
  ·exact Non (by simp [ZQ,kind]) (WS h)
  ·rename_i mp f as';cases mp<;>simp [kind,CM.isPure] at hn
 ·exact Non hn h
def Ngv (C:Ul):Prop:=∀mp lim g as H v H',C mp lim g as H=some (v,H')->lim<=H.length->H.length<=H'.length/\Grow lim H H'
theorem Ncc {C:Ul} (j:Ngv C) {lim:Nat} (h:R6 C lim dest o ρ H=some (v,H')) (hd:∀d,dest=some d->lim<=d) (hl:lim<=H.length) :
  H.length<=H'.length/\Grow lim H H':=by
 by_cases hc:∃mp f args,o=.call mp f args
 ·obtain ⟨mp,f,args,rfl⟩:=hc;simp only [R6] at h;split at h
  ·obtain ⟨a,b⟩:=CM.lim_le mp hl;obtain ⟨g,i⟩:=j _ _ _ _ _ _ _ (Td h).1 b;exact ⟨g,i.weaken a⟩
  ·cases h
 ·have c:∀mp f args,o≠.call mp f args:=fun mp f args e=>hc ⟨mp,f,args,e⟩
  rw [PD c] at h;exact ⟨Ntn h,Ngj h hd hl⟩
theorem Nlb {lim base:Nat} {l:List Nat} {X:NA} (k:lim<=base) (h:Grow lim (OI base l H) X):Grow lim H (OE base l H X):=⟨fun j b c g=>by
 by_cases d:∃i∈l,base+i=j
 ·have f:j<X.length:=by
   have:=(List.getElem?_eq_some_iff.1 c).1;rw [PQ] at this;exact this
  rw [Sc base H l X d f] at c;simp only [Option.some.injEq] at c;exact .inl (RB c g)
 ·have a:∀i∈l,base+i≠j:=fun i hi e=>d ⟨i,hi,e⟩
  rw [Ry base H l X a] at c;rcases h j b c g with h1 | h1
  ·rw [QT base l H a] at h1;exact .inl h1
  ·exact .inr h1,fun j d=>by
 have a:∀i∈l,base+i≠j:=fun i hi e=>by omega
 rw [Ry base H l X a,h.keep j d,QT base l H a]⟩
theorem Nfe {C:Ul} (c:Ngv C) {lim:Nat} {base:Option Nat} {i:AIns} {fr':Nat->Value} (h:TW C N lim base i fr H=some (fr',H')) (g:∀b,base=some b->lim<=b) (hl:lim<=H.length) :
  H.length<=H'.length/\Grow lim H H':=by
 unfold TW at h;cases hv:Tc C N lim base i fr H with
 | none=>rw [hv] at h;cases h
 | some p=>
   obtain ⟨v,K⟩:=p;rw [hv] at h;simp only [Nd,Prod.mk.injEq] at h;obtain ⟨f,k,rfl,rfl⟩:=h;unfold Tc at hv;cases hw:RO N fr i.guard with
   | none=>rw [hw] at hv;cases hv
   | some b=>
     rw [hw] at hv;cases b with
     | false=>cases hv;exact ⟨Nf _,Grow.refl _ _⟩
     | true=>
       cases base with
       | none=>exact Ncc c hv (fun d e=>by cases e) hl
       | some b=>
         simp only at hv;cases hs:R6 C lim (i.dest.map (b+·)) i.op (ev fr) (OI b i.mask H) with
         | none=>rw [hs] at hv;cases hv
         | some q=>
           obtain ⟨l,X⟩:=q;rw [hs] at hv;cases hv;obtain ⟨a,j⟩:=Ncc c hs (fun d e=>by
            simp only [Nd] at e;obtain ⟨r,_,rfl⟩:=e;have:=g b rfl;omega) (by rw [PG];exact hl)
           exact ⟨by rw [PQ];rw [PG] at a;exact a,Nlb (g b rfl) j⟩
theorem Nee {lim i:Nat} {b:Blk} (h:lim<=i) (ho:owned b=true):H.length<=(H.set i b).length/\Grow lim H (H.set i b):=⟨by simp,Grow.set h fun _=>ho⟩
theorem Nhj {lim:Nat}:∀{l:List Nat} {H H':NA},shut lim l H=some H'->H.length<=H'.length/\Grow lim H H'
 | [],H,H',h=>by cases h;exact ⟨Nf _,Grow.refl _ _⟩
 | i::l,H,H',h=>by
   simp only [shut] at h;split at h
   ·split at h
    ·rename_i hl;obtain ⟨h1,h2⟩:=Nhj h;exact ⟨by simpa using h1,(Grow.set (b:=.dead) hl fun h=>by simp [alive] at h).trans h2⟩
    ·cases h
   ·cases h
theorem Ng4 {lim i:Nat} {j:Option ACode} (hl:lim<=i) (h:endRound i j H=some (v,H')):H.length<=H'.length/\Grow lim H H':=by
 unfold endRound at h;split at h
 ·cases h;exact Nee hl rfl
 ·cases h
def Ui (C:Tw):Prop:=∀mp lim g as H L,C mp lim g as H=some L->lim<=H.length->∀r∈L,H.length<=r.2.length/\Grow lim H r.2
theorem Ui.det {C:Tw} (h:Ui C):Ngv (AM.det C):=fun mp lim g as H v H' a hl=>h _ _ _ _ _ _ (SN a) hl (v,H') (by simp)
theorem Nsc {lim:Nat} {L} (h:Mh lim v H=some L):∀r∈L,H.length<=r.2.length/\Grow lim H r.2:=fun r hr=>by
 unfold Mh at h;split at h
 case h_2=>cases h
 split at h
 case h_2=>cases h
 split at h
 case isFalse=>cases h
 rename_i hl;split at h
 case h_2=>cases h
 split at h
 case isFalse=>cases h
 split at h
 ·cases h;rw [Nq] at hr;subst hr;exact ⟨Nf _,Grow.refl _ _⟩
 ·obtain ⟨j,_,a⟩:=Z9 h r hr;split at a
  ·split at a
   ·cases a;exact ⟨by simp,Grow.set hl fun _=>rfl⟩
   ·cases a
  ·cases a
theorem Npf {C:Tw} (j:Ui C) {lim:Nat} {L} (h:YL C lim o ρ H=some L) (hl:lim<=H.length):∀r∈L,H.length<=r.2.length/\Grow lim H r.2:=fun r hr=>by
 by_cases hc:∃mp f args,o=.call mp f args
 ·obtain ⟨mp,f,args,rfl⟩:=hc;simp only [YL] at h;split at h
  case h_2=>cases h
  split at h
  case h_2=>cases h
  rename_i L0 a;obtain ⟨x,k,e⟩:=Z9 h r hr;obtain ⟨b,c⟩:=CM.lim_le mp hl;have:=(Td e).1;cases this;obtain ⟨g,i⟩:=j _ _ _ _ _ _ a c r k;exact ⟨g,i.weaken b⟩
 ·have plain:∀{v:Value} {H':NA},(NL lim none o ρ H).map (fun r=>[r])=some L->r=(v,H')->H.length<=H'.length/\Grow lim H H':=fun {v H'} h e=>by
   simp only [Nd] at h;obtain ⟨p,hp,rfl⟩:=h;rw [Nq] at hr;subst hr;cases e;exact ⟨Ntn hp,Ngj hp (fun d e=>by cases e) hl⟩
  cases o<;>first
   | exact absurd ⟨_,_,_,rfl⟩ hc
   | exact plain h rfl
theorem Npd {C:Tw} (c:Ui C) {lim:Nat} {i:AIns} {L} (h:stepX C lim i ρ H=some L) (hl:lim<=H.length):∀r∈L,H.length<=r.2.length/\Grow lim H r.2:=fun r hr=>by
 unfold stepX at h;split at h
 ·exact Npf c h hl r hr
 unfold Nd5 at h;split at h
 ·simp only [Nd] at h;obtain ⟨p,hp,rfl⟩:=h;rw [Nq] at hr;subst hr;unfold UB at hp;split at hp
  ·cases hp;exact ⟨by simp,Grow.app hl fun b a _=>by simp at a;subst a;rfl⟩
  ·cases hp
 ·exact Nsc h r hr
 ·simp only [Nd] at h;obtain ⟨p,hp,rfl⟩:=h;rw [Nq] at hr;subst hr;unfold Zp at hp
  repeat' (split at hp)
  all_goals first
   | (cases hp;done)
   | (cases hp;exact ⟨Nf _,Grow.refl _ _⟩)
 ·cases h
theorem Nv5 {C:Tw} (c:Ui C) {lim:Nat} {i:AIns} {L} (h:M5 C N lim i fr H=some L) (hl:lim<=H.length):∀r∈L,H.length<=r.2.length/\Grow lim H r.2:=fun r hr=>by
 unfold M5 at h;cases hw:RO N fr i.guard with
 | none=>rw [hw] at h;cases h
 | some b=>
   rw [hw] at h;cases b with
   | false=>
     simp only [Nd] at h;obtain ⟨f,_,rfl⟩:=h;rw [Nq] at hr;subst hr;exact ⟨Nf _,Grow.refl _ _⟩
   | true=>
     simp only at h;split at h
     case h_2=>cases h
     rename_i L0 a;obtain ⟨x,d,e⟩:=Z9 h r hr;simp only [Nd] at e;obtain ⟨f,_,rfl⟩:=e;exact Npd c a hl x d
theorem Nv7 {lim:Nat} (hl:lim<=H.length):Grow lim H (H++news X):=⟨fun j b a d=>by
 rcases Od j H.length with h | h
 ·rw [Oa h] at a;exact .inl a
 ·rw [Oi h] at a;unfold news at a;rw [Pk] at a;simp only [Nd] at a;obtain ⟨c,_,rfl⟩:=a;exact .inr ⟨rfl,by omega⟩,fun j e=>by rw [Oa (by omega)]⟩
theorem Nx6 {lim:Nat} (h:YI lim H u=true):(N4r H u).length=H.length/\Grow lim H (N4r H u):=by
 cases u with
 | none=>exact ⟨rfl,Grow.refl _ _⟩
 | some x=>
   obtain ⟨R,c⟩:=x;simp only [YI,N2,N6] at h;exact ⟨by simp [N4r],Grow.set h.1 fun _=>rfl⟩
theorem Mf {E:Env}
  (h:∀af lim k fr H L,(∀x∈k,∀b l,x≠.ops (some b) l)->run af lim k fr H=some L->lim<=H.length->∀r∈L,H.length<=r.2.length/\Grow lim H r.2):Ui (QV E run):=by
 intro mp lim g as H L a hl r hr;unfold QV at a;have keep:∀{v:Value},some [(v,H)]=some L->H.length<=r.2.length/\Grow lim H r.2:=fun {v} e=>by
  cases e;rw [Nq] at hr;subst hr;exact ⟨Nf _,Grow.refl _ _⟩
 cases g with
 | inr i=>
   simp only at a;split at a
   ·cases a
   split at a
   ·split at a
    ·exact h _ _ _ _ _ _ (fun x a b l e=>by simp at a;rcases a with rfl | rfl | rfl | rfl<;>cases e) a hl r hr
    ·cases a
   ·cases a
 | inl g=>
 simp only at a;split at a
 ·split at a
  ·exact keep a
  ·cases a
 split at a
 ·split at a
  ·cases a
  ·rename_i hc;cases a;rw [Nq] at hr;subst hr;simp only [Bool.or_eq_true,Bool.not_eq_true',not_or,Bool.not_eq_false] at hc;have c:=Nx6 hc.2;exact ⟨by simp [Nrq,c.1],c.2.trans (Nv7 (by omega))⟩
 ·split at a
  ·cases a
  ·split at a
   ·split at a
    ·split at a
     ·split at a
      ·exact keep a
      ·cases a
     ·cases a
    ·cases a
   ·split at a
    ·cases a
    ·exact h _ _ _ _ _ _ (fun x a b l e=>by simp at a;subst a;cases e) a hl r hr
theorem ZO {id:Nat}:∀{k k':List AItem} {a:AItem->Prop},RI id k=some k'->(∀x∈k,a x)->∀x∈k',a x
 | [],_,_,h,_=>by simp [RI] at h
 | y::k,k',a,h,hp=>by
   have hk:∀x∈k,a x:=fun x b=>hp x (Nr _ b)
   cases y<;>simp only [RI] at h
   case inBlock c=>
    split at h
    ·cases h;exact hk
    ·exact ZO h hk
   all_goals exact ZO h hk
theorem Ni3 (E:Env):∀(n:Nat) (af:AFunc) (lim:Nat) (k:List AItem) (fr:Nat->Value) (H:NA) (L:List (Value×NA)),(∀x∈k,∀b l,x=.ops (some b) l->lim<=b)->PK E n af lim k fr H=some L->lim<=H.length->
  ∀r∈L,H.length<=r.2.length/\Grow lim H r.2
 | 0,_,_,_,_,_,_,_,h,_,_,_=>by simp [PK] at h
 | n+1,af,lim,k,fr,H,L,hk,h,hl,r,hr=>by
   have ih:=Ni3 E n;rw [PK.eq_def] at h;simp only at h;have C:one ((result fr H af.results).map (·,H))=some L->H.length<=r.2.length/\Grow lim H r.2:=fun h=>by
    obtain ⟨x,h',rfl⟩:=V9 h;rw [Nq] at hr;subst hr;simp only [Nd] at h';obtain ⟨_,_,rfl⟩:=h';exact ⟨Nf _,Grow.refl _ _⟩
   have o:∀{i:Nat} {j:Option ACode},lim<=i->one (endRound i j H)=some L->H.length<=r.2.length/\Grow lim H r.2:=fun {i j} I h=>by
    obtain ⟨x,h',rfl⟩:=V9 h;rw [Nq] at hr;subst hr;exact Ng4 I h'
   have w:Ui (QV E (PK E n)):=Mf fun N lim' k' fr' H0 L0 F P G=>ih _ _ _ _ _ _ (fun x d b l e=>absurd e (F x d b l)) P G
   cases k with
   | nil=>exact C h
   | cons x k=>
     have g:∀x∈k,∀b l,x=.ops (some b) l->lim<=b:=fun x d=>hk x (Nr _ d)
     have add:∀{c:AItem},(∀b l,c≠.ops (some b) l)->∀x∈c::k,∀b l,x=.ops (some b) l->lim<=b:=fun {c} hc x d b l e=>by
      rcases Ns.1 d with h | h
      ·subst h;exact absurd e (hc b l)
      ·exact g x h b l e
     cases x with
     | inBlock id=>exact ih _ _ _ _ _ _ g h hl r hr
     | begin i=>
       simp only at h;split at h
       ·split at h
        ·rename_i hc;obtain ⟨u,p⟩:=Nee (H:=H) (b:=.loop { ‹LoopB› with st:=1 }) hc.2 rfl;obtain ⟨B,v⟩:=ih _ _ _ _ _ _ g h (by simpa using hl) r hr;exact ⟨by simpa using B,p.trans v⟩
        ·cases h
       ·cases h
     | round i=>
       simp only at h;split at h
       ·exact o ‹_› h
       ·cases h
     | mark i=>simp at h
     | inLoop c=>
       refine ih _ _ _ _ _ _ (fun x d b l e=>?_) h hl r hr;rcases Ns.1 d with h | h
       ·subst h;cases e
       ·exact add (c:=.inLoop c) (by simp) x h b l e
     | ops base l=>
       cases l with
       | nil=>cases base<;>exact ih _ _ _ _ _ _ g h hl r hr
       | cons i l=>
         cases base with
         | none=>
           simp only at h;split at h
           ·rename_i L0 d;obtain ⟨x,K,s,hs,A⟩:=Vw h r hr;obtain ⟨u,p⟩:=Nv5 w d hl x K;obtain ⟨B,v⟩:=ih _ _ _ _ _ _ (add (c:=.ops none l) (by simp)) hs (by omega) r A;exact ⟨by omega,p.trans v⟩
           ·cases h
         | some O=>
           simp only at h;split at h
           ·rename_i fr' H1 d;obtain ⟨u,p⟩:=Nfe w.det d (fun b e=>hk _ Nu b (i::l) (by cases e;rfl)) hl;obtain ⟨B,v⟩:=ih _ _ _ _ _ _ (fun x d b M e=>by
             rcases Ns.1 d with h | h
             ·subst h;cases e;exact hk _ Nu O (i::l) rfl
             ·exact g x h b M e) h (by omega) r hr
            exact ⟨by omega,p.trans v⟩
           ·cases h
     | code c=>
       cases c<;>simp only at h
       case skip=>exact ih _ _ _ _ _ _ g h hl r hr
       case ops l=>exact ih _ _ _ _ _ _ (add (c:=.ops none l) (by simp)) h hl r hr
       case drawn m l=>
        obtain ⟨u,p⟩:=ih _ _ _ _ _ _ (fun x d b M e=>by
         rcases Ns.1 d with h | h
         ·subst h;cases e;exact hl
         ·exact g x h b M e) h (by simp;omega) r hr
        exact ⟨by simp at u;omega,(Grow.dead hl m).trans p⟩
       case seq a b=>
        refine ih _ _ _ _ _ _ (fun x d b' l e=>?_) h hl r hr;rcases Ns.1 d with h | h
        ·subst h;cases e
        ·exact add (c:=.code b) (by simp) x h b' l e
       case cond c a b=>
        cases hc:ev fr c<;>rw [hc] at h<;>first
         | (rename_i t;cases t<;>exact ih _ _ _ _ _ _ (add (by simp)) h hl r hr)
         | (cases h;done)
       case block id b=>
        refine ih _ _ _ _ _ _ (fun x d b' l e=>?_) h hl r hr;rcases Ns.1 d with h | h
        ·subst h;cases e
        ·exact add (c:=.inBlock id) (by simp) x h b' l e
       case loop b=>
        refine ih _ _ _ _ _ _ (fun x d b' l e=>?_) h hl r hr;rcases Ns.1 d with h | h
        ·subst h;cases e
        ·exact add (c:=.inLoop b) (by simp) x h b' l e
       case exit id=>
        split at h
        ·rename_i k' z;exact ih _ _ _ _ _ _ (ZO z g) h hl r hr
        ·cases h
       case ret=>exact C h
       case retM=>
        split at h
        ·rename_i H1 J;obtain ⟨u,p⟩:=Nhj (lim:=lim) J;obtain ⟨x,h',rfl⟩:=V9 h;rw [Nq] at hr;subst hr;simp only [Nd] at h';obtain ⟨_,_,rfl⟩:=h';exact ⟨u,p⟩
        ·cases h
       case retR=>
        split at h
        ·split at h
         ·exact o ‹_› h
         ·cases h
        ·cases h
       case exitR id=>
        split at h
        ·rename_i k' z;exact ih _ _ _ _ _ _ (ZO z g) h hl r hr
        ·split at h
         ·split at h
          ·exact o ‹_› h
          ·cases h
         ·cases h
       case rangeF f ps a b=>
        split at h
        ·split at h
         ·rename_i L0 d;obtain ⟨q,Q,s,hs,A⟩:=Vw h r hr;obtain ⟨u,p⟩:=w _ _ _ _ _ _ d (by simp;omega) q Q;simp at u;split at hs
          ·rename_i x D;split at hs
           ·cases hs
           ·obtain ⟨B,v⟩:=ih _ _ _ _ _ _ (fun y hy b l e=>by
             rcases Ok.1 hy with hy | hy
             ·cases hp:x.pend<;>rw [hp] at hy<;>simp at hy;subst hy;cases e
             ·rcases Ok.1 hy with hy | hy
              ·exact g y hy b l e
              ·simp at hy;subst hy;cases e) hs (by simp;omega) r A
            simp at B;exact ⟨by omega,(Grow.app hl fun b D _=>by simp at D;rcases D with rfl | rfl<;>rfl).trans (p.trans ((Grow.set (b:=.dead) (by omega) fun h=>by simp [alive] at h).trans v))⟩
          ·cases hs
         ·cases h
        ·cases h
open Go.RowKit
structure CallOkS (Pg:Prg) (C:Tw):Prop where
 fn:∀mp lim g as H L,C mp lim (.inl g) as H=some L->∃fn,Pg.P.funcs[g]? = some fn/\fn.body.isSome=true/\(fn.name == "runtime.NumGoroutine")=false
 calls:∀mp lim g as H L,C mp lim (.inl g) as H=some L->lim<=H.length->∀W σ w as',Inv Pg W lim σ H w->OV σ as as'->Calls Pg.P g as'.toArray w fun e w'=>∃r∈L,Sj Pg W lim σ H r.1 r.2 w e w'
 rounds:∀mp lim i as H L,C mp lim (.inr i) as H=some L->lim<=H.length->∀W σ w as' L0,Inv Pg W lim σ H w->OV σ as as'->σ i=some L0->
  ∃r,w.heap[L0.blk]? = some (.loop r)/\as'.toArray.size=r.params.size/\RoundIn Fence.wide 0 Pg.P L0.blk r.fn (Tz r as'.toArray) r.assign r.body w fun e w'=>∃x∈L,Sj Pg W lim σ H x.1 x.2 w e w'
 grow:Ui C
 pure:∀lim g as H L,C true lim g as H=some L->∀r∈L,r.2=H
theorem CallOkS.det {Pg:Prg} {C:Tw} (h:CallOkS Pg C):CallOk Pg (AM.det C) where
 pure lim g as H v H' hx:=h.pure _ _ _ _ _ (SN hx) (v,H') (by simp)
 len mp lim g as H v H' hx hl:=(h.grow _ _ _ _ _ _ (SN hx) hl (v,H') (by simp)).1
 keep mp lim g as H v H' hx hl:=(h.grow _ _ _ _ _ _ (SN hx) hl (v,H') (by simp)).2.keep
 fn mp lim g as H v H' hx:=h.fn _ _ _ _ _ _ (SN hx)
 calls mp lim g as H v H' hx hl W σ w as' hinv ha:=(h.calls _ _ _ _ _ _ (SN hx) hl W σ w as' hinv ha).mono fun e w' hp=>by
  obtain ⟨r,hr,hp⟩:=hp;rw [Nq] at hr;subst hr;exact hp
 rounds mp lim i as H v H' hx hl W σ w as' L hinv ha hL:=by
  obtain ⟨r,h1,h2,a⟩:=h.rounds _ _ _ _ _ _ (SN hx) hl W σ w as' L hinv ha hL;exact ⟨r,h1,h2,a.mono fun e w' hp=>by
   obtain ⟨x,hx,hp⟩:=hp;rw [Nq] at hx;subst hx;exact hp⟩
 grow mp lim g as H v H' hx hl:=(h.grow _ _ _ _ _ _ (SN hx) hl (v,H') (by simp)).2
theorem Nod (Pg:Prg):CallOk Pg fun _ _ _ _ _=>none where
 pure:=fun _ _ _ _ _ _ h=>by cases h
 len:=fun _ _ _ _ _ _ _ h=>by cases h
 keep:=fun _ _ _ _ _ _ _ h=>by cases h
 fn:=fun _ _ _ _ _ _ _ h=>by cases h
 calls:=fun _ _ _ _ _ _ _ h=>by cases h
 rounds:=fun _ _ _ _ _ _ _ h=>by cases h
 grow:=fun _ _ _ _ _ _ _ h=>by cases h
section
variable {P:Program} {pf pureF:FuncId->Bool} {C:Tw} {W:Nat->Prop} {lim:Nat} {σ:PO} {H H':NA} {w:World} {ds:List Deferred} {ro:Option Nat}
variable {ρ:Operand->Value} {o:Oper} {Q:Exit->Act->World->Prop} {r:Nat}
theorem Nz5 {m n:Nat} {seen:List Nat} {ty:TypeId} {ents:Array MapEntry} (hr:w.heap[r]? = some (.mapIter (some m) n seen.toArray n)) (o:w.heap[m]? = some (.map ents n)) (f:∀(j:Nat) e,ents[j]? = some e->e.born=j) (A:ents.size=n) :
  (Tq n seen=[]/\(Instr.next (.pointer (some ⟨r,0,none⟩)) false ty).run P w=.ok (.tuple #[.bool false]) w)\/
  ∃j∈Tq n seen,∃e,ents[j]? = some e/\∃w1,(w1=w\/w1=w.drew)/\(Instr.next (.pointer (some ⟨r,0,none⟩)) false ty).run P w=.ok (.tuple #[.bool true,e.key,e.val]) (w1.putObj r (.mapIter (some m) n (seen++[j]).toArray n)):=by
 have d:∀x∈ents.toList,x.born<n:=fun x a=>by
  obtain ⟨j,c,rfl⟩:=List.mem_iff_getElem.1 a;have:=f j ents[j] (by simp);simp at c;simp;omega
 simp only [Instr.next,getObj,Sem.run_bind,Sem.run,hr,o,Result.andThen,next_test_false seen.toArray ents n n d (Nf _),N3,if_false];have b:∀x∈(Array.filter (fun e=>!seen.toArray.contains e.born) ents).toList,x.born<n:=fun x a=>d x (by simp at a⊢;exact a.1)
 have g:∀x∈(Array.filter (fun e=>!seen.toArray.contains e.born) ents).toList,x.born∈Tq n seen/\ents[x.born]? = some x:=fun x a=>by
  simp at a;obtain ⟨j,c,rfl⟩:=Array.mem_iff_getElem.1 a.1;have o:=f j ents[j] (by simp);rw [o];refine ⟨?_,by simp⟩;unfold Tq;rw [O0,List.mem_range];exact ⟨by omega,by have:=a.2;rw [o] at this;simpa using this⟩
 have i:Tq n seen≠[]->(Array.filter (fun e=>!seen.toArray.contains e.born) ents)≠#[]:=fun h e=>by
  obtain ⟨j,c⟩:=Q7 _ h;unfold Tq at c;rw [O0,List.mem_range] at c;have q:j<ents.size:=by omega
  have hm:ents[j]∈Array.filter (fun e=>!seen.toArray.contains e.born) ents:=by
   rw [Array.mem_filter];refine ⟨Array.getElem_mem q, ?_⟩;rw [f j ents[j] (by simp)];simpa using c.2
  rw [e] at hm;simp at hm
 generalize Array.filter (fun e=>!seen.toArray.contains e.born) ents=L at b g i⊢;have e1:L.filter (fun x=>decide (x.born<n))=L:=Array.filter_eq_self.2 (fun x a=>by simpa using b x (by simpa using a));have e2:L.filter (fun x=>decide (x.born>=n))=#[]:=by
  rw [Array.filter_eq_empty_iff];intro x a;have:=b x (by simpa using a);simp;omega
 simp only [e1,e2,Array.append_empty];by_cases u:L.size=0
 ·left;have:L=#[]:=Array.eq_empty_of_size_eq_zero u;subst this;refine ⟨Om fun h=>i h rfl, ?_⟩;simp [choose,Sem.run,Question.forced]
 ·right;have s:L.isEmpty=false:=by simp [Array.isEmpty,u]
  simp only [s,N3,if_false,Array.empty_append,Array.size_map];have p:∃(j:Nat) (w1:World),j<L.size/\(w1=w\/w1=w.drew)/\(choose (Question.mapNext L.size)).run P w=.ok j w1:=by
   by_cases v:L.size<=1
   ·exact ⟨0,w,by omega,.inl rfl,by simp [choose,Sem.run,Question.forced,v]⟩
   ·exact ⟨_,w.drew,P6 _ (by omega),.inr rfl,by
     simp only [choose,Sem.run,Question.forced,N6,v,if_false,Question.cut];rfl⟩
  obtain ⟨j,w1,c,l,k⟩:=p;obtain ⟨y,z⟩:=g L[j] (by simp);refine ⟨_,y,L[j],z,w1,l, ?_⟩;have t:w1.heap[r]? = some (.mapIter (some m) n seen.toArray n):=by
   rcases l with rfl | rfl<;>exact hr
  simp only [k,Array.getElem?_map,Of c,Ny,Sem.run_bind,setObj,Sem.run,t,Result.andThen];simp [World.putObj]
theorem Ncr {v:Value} (h:VY v=true):VRel σ v v:=by
 cases v<;>simp only [VY] at h<;>first
  | (cases h;done)
  | exact .atom rfl
  | skip
 rename_i cs;rw [N7] at h;refine VRel.agg_iff.2 ⟨OV.refl_of fun x a=>?_,fun y b=>?_⟩
 ·have:=h x a;cases x<;>first | exact .atom rfl | (simp at this;done)
 ·have:=h y b;cases y<;>first | rfl | (simp at this;done)
theorem Inv.push {Pg:Prg} (h:Inv Pg W lim σ H w) {b:Blk} {o:Obj} (ho:owned b=true) (g:UV Pg (σ.put H.length ⟨w.heap.size,0,0⟩) (w.alloc o) ⟨w.heap.size,0,0⟩ b):Inv Pg W lim (σ.put H.length ⟨w.heap.size,0,0⟩) (H++[b]) (w.alloc o)/\∀j,(σ.put H.length ⟨w.heap.size,0,0⟩) j≠σ j->none=some j\/H.length<=j:=by
 have p:Inv Pg W lim σ H (w.alloc o):=h.world (by simp) fun b g=>by rw [U7,P5];rw [Ng (by omega)]
 obtain ⟨i,k,r,l,s,t,u⟩:=Ud (dest:=none) (b:=b) (H:=H) (show place none b H=(H.length,H++[b]) from rfl) (fun d e=>by cases e);refine ⟨p.adopt i k l (h.dom _ (Nf _)) g ho (h.fresh _ (Nf _)) fun j bj Lj n c f a e=>?_,fun j m=>.inr ?_⟩
 ·obtain ⟨q,h1,h2⟩:=h.blk j bj c f;rw [a] at h1;cases h1;have:=h2.lt f;simp at e;omega
 ·apply Om;intro hc;refine m ?_;simp only [PO.put];rw [Ng (by omega)]
theorem N4x {o:Obj} (a:W r):Stp W w (w.putObj r o):=
 ⟨rfl,rfl,⟨rfl,Nf _⟩,by simp,fun b c=>World.putObj_heap_other fun e=>c (e▸a)⟩
theorem Inv.putLoop (h:Inv (Prg.mk P pf) W lim σ H w) {i:Nat} {b b':Blk} {L:Loc} (d:NE H i=b) (ho:owned b=true) (hL:σ i=some L) (hl:lim<=i) {o:Obj} (a:UV (Prg.mk P pf) σ (w.putObj L.blk o) L b') (c:alive b'=true->owned b'=true) :
  Inv (Prg.mk P pf) W lim σ (H.set i b') (w.putObj L.blk o)/\Stp W w (w.putObj L.blk o):=by
 have hi:=RB d (PS ho);exact ⟨h.rewrite hi ho hL (by simp) (fun k hk=>World.putObj_heap_other hk) a c,N4x (h.wr i b L hi ho hl hL)⟩
theorem Nyo (V:CallOkS (Prg.mk P pf) C) {ao:AOp} (h:Na8 P pureF false o=some ao) (A:Inv (Prg.mk P pf) W lim σ H w) (hl:lim<=H.length) {a:Act} (hρ:∀x,QB x=true->VRel σ (ρ x) (a.eval x)) {L} (t:YL C lim ao ρ H=some L)
  {K:Act->World->Prop} (X:∀r∈L,∀v' w' B,Mj (Prg.mk P pf) W lim σ none H w r.1 r.2 v' w' B->K (a.put o.dst v') w'):o.wpIn (WF ro) 0 P a w K Q:=by
 by_cases z:∃mp f args,ao=.call mp f args
 ·obtain ⟨mp,f,args,rfl⟩:=z;have ad:∃c,o.op=.call c/\c.callee=.value f/\args=c.args.toList/\∀x∈o.op.operands,QB x=true:=by
   obtain ⟨dst,op,type,pos,after,guard⟩:=o;unfold Na8 at h;split at h
   ·cases h
   rename_i O;simp only [Bool.not_eq_true,Bool.not_eq_false'] at O;have s:∀x∈op.operands,QB x=true:=fun x t=>Nmg (o:=⟨dst,op,type,pos,after,guard⟩) (by simpa using O) t
   cases op<;>(try simp only at h)<;>try (cases h;done)
   case call c=>
    refine ⟨c,rfl, ?_⟩;cases hc:c.callee with
    | value f'=>rw [hc] at h;simp at h;obtain ⟨_,rfl,rfl⟩:=h;exact ⟨rfl,rfl,s⟩
    | invoke r m=>rw [hc] at h;simp at h
    | builtin b=>
      rw [hc] at h;exfalso;cases b<;>(try simp only at h)<;>(try (cases h;done))<;>(repeat' (split at h))<;>first
       | (cases h;done)
       | (simp only [Nd] at h;obtain ⟨_,_,h⟩:=h;cases h;done)
       | (exfalso;simp at h;done)
       | (obtain ⟨_,_,h⟩:=OM h;obtain ⟨_,_,h⟩:=OM h;obtain ⟨_,_,h⟩:=OM h;split at h<;>cases h;done)
   all_goals exfalso
   all_goals (repeat' (first | (obtain ⟨_,_,h⟩:=OM h) | split at h))
   all_goals first
    | (cases h;done)
    | (simp only [Nd] at h;obtain ⟨_,_,h⟩:=h;cases h;done)
    | contradiction
  obtain ⟨c,ho,p,rfl,s⟩:=ad;simp only [YL] at t;split at t
  case h_2=>cases t
  rename_i g as l;split at t
  case h_2=>cases t
  rename_i L0 k;have ae:∀r∈L0,r∈L:=fun r hr=>by
   obtain ⟨y,hy,e⟩:=YW t r hr;have:=(Td e).1;cases this;exact hy
  obtain ⟨J,E⟩:=CM.lim_le mp hl;have n:=A.up J;generalize mp.lim lim H=lim' at k J E n;generalize mp.isPure=ag at k;have S:∀{ρ'},o.semAt (WF ro).round ρ'=execOp ρ' o:=fun {ρ'}=>Oper.semAt_eq _ _ _ fun c' e=>by rw [ho] at e;cases e
  refine ⟨fun _ _=>trivial, ?_⟩;rw [S];have ab:QB f=true:=s f (by rw [ho];simp [Op.operands,Call.operands,p]);have D:=hρ f ab;have u:OV σ (c.args.toList.map ρ) (c.args.map a.eval).toList:=by
   have:(c.args.map a.eval).toList=c.args.toList.map a.eval:=by simp
   rw [this];exact VX fun x t=>hρ x (s x (by rw [ho];simp only [Op.operands,Call.operands,p];simp at t⊢;exact .inr t))
  have fin:∀{M:Ending} {w':World} {K':Value->World->Prop},(∃r∈L0,Sj (Prg.mk P pf) W lim' σ H r.1 r.2 w M w')->(∀v',M=.returned v'->(∃r∈L,∃B,Mj (Prg.mk P pf) W lim σ none H w r.1 r.2 v' w' B)->K' v' w')->∃v',M=.returned v'/\K' v' w':=fun {M w' K'} hp hk=>by
   obtain ⟨r,hr,v',B,rfl,q1,q2,q3,q4,q5⟩:=hp;obtain ⟨g1,g2⟩:=V.grow _ _ _ _ _ _ k E r hr;exact ⟨v',rfl,hk v' rfl ⟨r,ae r hr,B,q1,A.back q2 q4 g2,q3,q4,fun j hj=>.inr (q5 j hj),g1,g2.weaken J⟩⟩
  unfold NF at l;split at l
  case h_3=>cases l
  case h_2=>
   rename_i i fi ca Z;simp only [Option.some.injEq,Prod.mk.injEq] at l;obtain ⟨rfl,rfl⟩:=l;rw [Z] at D;obtain ⟨L1,hL,rfl,rfl,I⟩:=D.yld_left;simp only [Og,Na] at k;obtain ⟨r,h1,h2,U⟩:=V.rounds _ _ _ _ _ _ k E W σ w _ L1 n u hL;simp only [Array.toArray_toList] at h2 U;rw [Nf5 (P:=P) ho p I h1 h2,Oper.uponIn_round];refine ⟨MG,Nei (U.mono fun M w' hp=>?_)⟩;obtain ⟨v',rfl,hk⟩:=fin (K':=fun v' w'=>K (a.put o.dst v') w') hp fun v' _ ⟨r,hr,B,hn⟩=>X r hr v' w' B hn
   exact hk
  rename_i g' fi ca Z;simp only [Option.some.injEq,Prod.mk.injEq] at l;obtain ⟨rfl,rfl⟩:=l;rw [Z] at D;obtain ⟨G,F,I,aa,Y⟩:=D.func_left;obtain ⟨fn,h1,h2,U⟩:=V.fn _ _ _ _ _ _ k;have R:=Nf6 (P:=P) (w:=w) ho p I h1 h2 U;have q:=V.calls _ _ _ _ _ _ k E W σ w (G.toList++(c.args.map a.eval).toList++F.toList) n ((aa.append u).append Y);have e:(G.toList++(c.args.map a.eval).toList++F.toList).toArray=G++c.args.map a.eval++F:=by
   apply Array.ext';simp
  rw [e] at q;rw [R,Oper.uponIn_enter];refine ⟨MG,Nf3 (q.mono fun M w' hp=>?_)⟩;obtain ⟨v',rfl,hk⟩:=fin (K':=fun v' w'=>K (a.put o.dst v') w') hp fun v' _ ⟨r,hr,B,hn⟩=>X r hr v' w' B hn
  exact hk
 ·have N:∀mp f args,ao≠.call mp f args:=fun mp f args e=>z ⟨mp,f,args,e⟩
  have T:(NL lim none ao ρ H).map (fun r=>[r])=some L:=by
   cases ao<;>first | exact t | exact absurd rfl (N _ _ _)
  simp only [Nd] at T;obtain ⟨⟨v,H'⟩,hv,rfl⟩:=T;refine Nt4 (Nod (Prg.mk P pf)) (dest:=none) h A hl (fun d e=>by cases e) (fun d e=>by cases e) hρ (v:=v) (H':=H') (by rw [PD N];exact hv) fun v' w' B hn=>X (v,H') (by simp) v' w' B hn
theorem Nt6 {x:Operand} {k:Nat} (g:N4t P o=some (x,k)) (d:Inv (Prg.mk P pf) W lim σ H w) (hl:lim<=H.length) {a:Act} (hρ:∀x,QB x=true->VRel σ (ρ x) (a.eval x)) {L} {i:AIns} (an:i.op=.mov x) (aq:i.dest=some k) (f:stepX C lim i ρ H=some L)
  {K:Act->World->Prop} (hK:∀r∈L,∀v' w' σ',Mj (Prg.mk P pf) W lim σ none H w r.1 r.2 v' w' σ'->K (a.put o.dst v') w'):o.wpIn (WF ro) 0 P a w K Q:=by
 obtain ⟨dst,op,type,pos,after,guard⟩:=o;unfold N4t at g;split at g
 ·cases g
 rename_i ah;simp only [Bool.not_eq_true,Bool.not_eq_false'] at ah;have F:∀x∈op.operands,QB x=true:=fun x f=>Nmg (o:=⟨dst,op,type,pos,after,guard⟩) (by simpa using ah) f
 unfold stepX at f;rw [aq,an] at f;simp only [Nd5] at f;have fin:∀{v v':Value} {H1:NA} {w1:World} {σ1:PO},(v,H1)∈L->(execOp a.eval ⟨dst,op,type,pos,after,guard⟩).run P w=.ok (.value v') w1->Mj (Prg.mk P pf) W lim σ none H w v H1 v' w1 σ1->Oper.wpIn (WF ro) 0 P ⟨dst,op,type,pos,after,guard⟩ a w K Q:=fun {v v' H1 w1 σ1} hm hr hn=>by
  have am:∀c,op≠.defer c:=fun c e=>by
   subst e;simp at g
  refine ⟨fun _ _=>trivial, ?_⟩;rw [Oper.semAt_eq _ _ _ am,hr,Oper.uponIn_value];exact hK _ hm _ _ _ hn
 cases op<;>simp only at g<;>try (cases g;done)
 case range t y=>
  split at g
  case h_2=>cases g
  rename_i kt et J;cases g;have N:=hρ x (F x (by simp [Op.operands]));simp only at f;simp only [Nd] at f;obtain ⟨p,hp,rfl⟩:=f;unfold UB at hp;split at hp
  case h_2=>cases hp
  rename_i m es hm h;cases hp;rw [hm] at h N;rcases d.entries N h with ⟨l,rfl⟩ | ⟨r,L,ents,clock,E,A,hL,l,I,D,u⟩
  ·have ax:m=none:=by
    cases m with
    | none=>rfl
    | some r=>obtain ⟨L,_,h2⟩:=N.map_left;rw [l] at h2;cases h2
   subst ax;obtain ⟨i1,i2⟩:=d.push (b:=.iter none 0 []) (o:=.mapIter none 0 #[] 0) rfl ⟨rfl,none,rfl,World.alloc_heap_new _ _,fun j q=>by cases q⟩;refine fin (Nq.2 rfl) (v':=.pointer (some ⟨w.heap.size,0,none⟩)) (by
    simp only [execOp];refine QA P w _ ?_;rw [l];exact run_range_nilMap w t kt et J) ⟨by have:=VRel.ptr (σ:=σ.put H.length ⟨w.heap.size,0,0⟩) (k:=0) PO.put_same;simpa using this,i1,Stp.alloc d.fresh _,PO.le_put (d.dom _ (Nf _)),i2,by simp,Grow.app hl fun b A _=>by simp at A;subst A;rfl⟩
  ·cases E;obtain ⟨t1,t2⟩:=d.stamps A hL I;have ae:=PO.le_put (L:=⟨w.heap.size,0,0⟩) (d.dom _ (Nf H.length));obtain ⟨i1,i2⟩:=d.push (b:=.iter (some r) es.length []) (o:=.mapIter (some L.blk) clock #[] clock) rfl ⟨rfl,some L.blk,⟨L,ae _ _ hL,rfl⟩,by rw [<-t1];exact World.alloc_heap_new _ _,fun j q=>by cases q⟩;refine fin (Nq.2 rfl) (v':=.pointer (some ⟨w.heap.size,0,none⟩)) (by
    simp only [execOp];refine QA P w _ ?_;rw [l];exact run_range_map w t kt et L.blk ents clock J I) ⟨by have:=VRel.ptr (σ:=σ.put H.length ⟨w.heap.size,0,0⟩) (k:=0) PO.put_same;simpa using this,i1,Stp.alloc d.fresh _,ae,i2,by simp,Grow.app hl fun b A _=>by simp at A;subst A;rfl⟩
 case next it YD=>
  split at g
  ·cases g
  rename_i hs;cases g;have N:=hρ x (F x (by simp [Op.operands]));simp only at f;unfold Mh at f;split at f
  case h_2=>cases f
  rename_i r hr;rw [hr] at N;obtain ⟨Lr,ab,_,Z⟩:=N.ptr_left;split at f
  case h_2=>cases f
  rename_i m n seen A;split at f
  case isFalse=>cases f
  rename_i ag;split at f
  case h_2=>cases f
  rename_i es h;split at f
  case isFalse=>cases f
  rename_i hn;obtain ⟨L',h1,T⟩:=d.blk r _ (RB A rfl) rfl;have O:σ r=some Lr:=ab;rw [O] at h1;cases h1;obtain ⟨h0,m',hm,I,ai⟩:=T;have hp:a.eval x=.pointer (some ⟨Lr.blk,0,none⟩):=by rw [Z,h0];rfl
  have az:YD=false:=by simpa using hs
  subst az;cases m with
  | none=>
    cases hm;have e0:es=[]:=by simp [mapEntries] at h;exact h
    subst e0;have av:n=0:=by simpa using hn.symm
    subst av;have J:Tq 0 seen=[]:=rfl;rw [J] at f;cases f;refine fin (Nq.2 rfl) (v':=.tuple #[.bool false]) (by
     simp only [execOp];refine QA P w _ ?_;rw [hp];simp only [Instr.next,getObj,Sem.run_bind,Sem.run,I,Result.andThen];rfl) ⟨VRel.tuple_iff.2 (OV.cons (.atom rfl) OV.nil),d,Stp.refl _ _,PO.le_refl _,fun j q=>absurd rfl q,Nf _,Grow.refl _ _⟩
  | some mr=>
    obtain ⟨M,hM,rfl⟩:=hm;have a3:NE H mr=.map es:=by
     simp only [mapEntries] at h;split at h
     ·rename_i ak;cases h;exact ak
     ·cases h
    rcases d.entries (.map hM) h with ⟨l,_⟩ | ⟨r',L1,ents,clock,E,S,z,l,s,D,u⟩
    ·cases l
    cases E;have R:L1=M:=by rw [z] at hM;cases hM;rfl
    subst R;obtain ⟨t1,t2⟩:=d.stamps S z s;rw [t1,hn] at s;simp only [Option.isSome_some,if_true] at I;rcases Nz5 (P:=P) (ty:=type) I s t2 (by rw [D,hn]) with ⟨J,G⟩ | ⟨j,q,e,he,w1,aa,G⟩
    ·rw [J] at f;cases f;refine fin (Nq.2 rfl) (v':=.tuple #[.bool false]) (by
      simp only [execOp];refine QA P w _ ?_;rw [hp];exact G) ⟨VRel.tuple_iff.2 (OV.cons (.atom rfl) OV.nil),d,Stp.refl _ _,PO.le_refl _,fun j q=>absurd rfl q,Nf _,Grow.refl _ _⟩
    ·have a0:YX (fun j=>match es[j]? with
       | some e=>if VY e.1 then some (.tuple #[.bool true,e.1,e.2],H.set r (.iter (some mr) n (seen++[j]))) else none
       | none=>none) (Tq n seen)=some L:=by
      cases J:Tq n seen with
      | nil=>rw [J] at q;cases q
      | cons j0 l0=>rw [J] at f;exact f
     obtain ⟨y,hy,ey⟩:=YW a0 j q;have ar:j<n:=by
      unfold Tq at q;exact List.mem_range.1 (O0.1 q).1
     have B:j<es.length:=by omega
     rw [Ni B] at ey;simp only at ey;split at ey
     case isFalse=>cases ey
     rename_i X;cases ey;obtain ⟨k1,k2⟩:=u j es[j] e (Ni B) he;have V:Inv (Prg.mk P pf) W lim σ H w1:=by rcases aa with rfl | rfl;exact d;exact d.drew
     have aj:Stp W w w1:=by rcases aa with rfl | rfl;exact Stp.refl _ _;exact Stp.drew
     have au:Lr.blk<w1.heap.size:=by
      have:=(Array.getElem?_eq_some_iff.1 I).1;rcases aa with rfl | rfl<;>exact this
     obtain ⟨i1,i2⟩:=V.putLoop (o:=.mapIter (some L1.blk) n (seen++[j]).toArray n) (b':=.iter (some mr) n (seen++[j])) A rfl ab ag
      ⟨h0,some L1.blk,⟨L1,z,rfl⟩,by simpa using World.putObj_heap_same au,fun i hi=>by
       rcases Ok.1 hi with hi | hi
       ·exact ai i hi
       ·rw [Nq] at hi;subst hi;exact ar⟩ (fun _=>rfl)
     refine fin hy (v':=.tuple #[.bool true,e.key,e.val]) (by
      simp only [execOp];refine QA P w _ ?_;rw [hp];exact G) ⟨VRel.tuple_iff.2 (OV.cons (.atom rfl) (OV.cons (by rw [<-k1];exact Ncr X) (OV.cons k2 OV.nil))),i1,aj.trans i2,PO.le_refl _,fun j q=>absurd rfl q,by simp,Grow.set ag fun _=>rfl⟩
 case entry it=>
  cases g;have N:=hρ x (F x (by simp [Op.operands]));simp only at f;simp only [Nd] at f;obtain ⟨p,hp,rfl⟩:=f;unfold Zp at hp;split at hp
  case h_2=>cases hp
  rename_i r hr;rw [hr] at N;obtain ⟨L,hL,_,Z⟩:=N.ptr_left;split at hp
  case h_2=>cases hp
  rename_i mr n seen A;split at hp
  case h_2=>cases hp
  rename_i es j h Y;split at hp
  case isFalse=>cases hp
  rename_i hn;split at hp
  case h_2=>cases hp
  rename_i e0 ad;split at hp
  case isFalse=>cases hp
  rename_i X;cases hp;obtain ⟨L',h1,T⟩:=d.blk r _ (RB A rfl) rfl;have O:σ r=some L:=hL;rw [O] at h1;cases h1;obtain ⟨h0,m',⟨M,hM,rfl⟩,I,ai⟩:=T;have ay:a.eval x=.pointer (some ⟨L.blk,0,none⟩):=by rw [Z,h0];rfl
  rcases d.entries (.map hM) h with ⟨l,_⟩ | ⟨r',L1,ents,clock,E,S,z,l,s,D,u⟩
  ·cases l
  cases E;have R:L1=M:=by rw [z] at hM;cases hM;rfl
  subst R;obtain ⟨t1,t2⟩:=d.stamps S z s;rw [t1,hn] at s;simp only [Option.isSome_some,if_true] at I;have a5:j<es.length:=(List.getElem?_eq_some_iff.1 ad).1;have B:j<ents.size:=by omega
  obtain ⟨k1,k2⟩:=u j e0 ents[j] ad (by simp [B]);obtain ⟨s0,rfl⟩:∃s0,seen=s0++[j]:=by
   exact List.getLast?_eq_some_iff.1 Y
  have U:ents.find? (·.born == j)=some ents[j]:=by
   rw [<-Array.find?_toList];have aw:(ents.toList.map (·.born)).Nodup:=by
    have:ents.toList.map (·.born)=List.range ents.size:=by
     apply Pr (by simp);intro i h1 h2;simp at h1 h2;simp;exact t2 i ents[i] (by simp)
    rw [this];exact List.nodup_range
   have:=find_born ents[j] ents.toList aw (by simp);rw [t2 j ents[j] (by simp [B])] at this;exact this
  refine fin (Nq.2 rfl) (v':=.tuple #[ents[j].key,ents[j].val]) (by
   simp only [execOp];refine QA P w _ ?_;rw [ay];have al:(s0++[j]).toArray.back? = some j:=by simp
   simp only [Instr.entry,getObj,Sem.run_bind,Sem.run,I,s,al,Result.andThen,bne_self_eq_false,N3,if_false,U];rfl) ⟨VRel.tuple_iff.2 (OV.cons (by rw [<-k1];exact Ncr X) (OV.cons k2 OV.nil)),d,Stp.refl _ _,PO.le_refl _,fun j q=>absurd rfl q,Nf _,Grow.refl _ _⟩
theorem N6g (B:CallOkS (Prg.mk P pf) C) {ops:Array Oper} {j:Nat} (u:ops[j]? = some o) {i:AIns} (c:YJ P pureF ops o=some i) {N:Nat} {fr:Nat->Value} {a:Act} (hs:State (Prg.mk P pf) ds W lim σ N fr H a w)
  {L} (h:M5 C N lim i fr H=some L) {K:Act->World->Prop} (z:∀r∈L,∀p a' w',State (Prg.mk P pf) ds W lim p N r.1 r.2 a' w'->Stp W w w'->PO.le σ p->Grow lim H r.2->(∀j,p j≠σ j->H.length<=j)->H.length<=r.2.length->K a' w'):wpOpIn (WF ro) 0 P ops Q j K a w:=by
 have e:(∃ao,Na8 P pureF false o=some ao/\i.op=ao/\i.dest=none\/∃x k,N4t P o=some (x,k)/\i.op=.mov x/\i.dest=some k)/\i.dst=o.dst/\MK ops o.guard=some i.guard:=by
  unfold YJ at c;split at c
  ·rename_i O l;cases c;obtain ⟨ao,d,l⟩:=OM l;obtain ⟨g,t,l⟩:=OM l;cases l;exact ⟨⟨ao,.inl ⟨d,rfl,rfl⟩⟩,rfl,t⟩
  ·obtain ⟨⟨x,k⟩,d,c⟩:=OM c;obtain ⟨g,t,c⟩:=OM c;cases c;exact ⟨⟨default,.inr ⟨x,k,d,rfl,rfl⟩⟩,rfl,t⟩
 obtain ⟨e,n,t⟩:=e;unfold wpOpIn;rw [u];simp only;unfold M5 at h;cases hw:RO N fr i.guard with
 | none=>rw [hw] at h;cases h
 | some b=>
 rw [hs.fr.wanted t hw];rw [hw] at h;cases b with
 | false=>
   simp only [N3,if_false];simp only [Nd] at h;obtain ⟨f,s,rfl⟩:=h;rw [n] at s;exact ⟨fun _ _=>trivial,z _ (Nq.2 rfl) σ _ w ⟨hs.fr.put (.atom rfl) s,hs.inv,hs.lim⟩ (Stp.refl _ _) (PO.le_refl _) (Grow.refl _ _) (fun j u=>absurd rfl u) (Nf _)⟩
 | true=>
   simp only [if_true];simp only at h;split at h
   case h_2=>cases h
   rename_i L0 m;have go:∀r∈L0,∀v' w' p,Mj (Prg.mk P pf) W lim σ none H w r.1 r.2 v' w' p->K (a.put o.dst v') w':=fun r hr v' w' p hn=>by
    obtain ⟨y,D,v⟩:=YW h r hr;simp only [Nd] at v;obtain ⟨f,s,rfl⟩:=v;rw [n] at s;obtain ⟨E,F,G,A,I,J,M⟩:=hn;exact z _ D p _ w' ⟨(hs.fr.mono A).put E s,F,by have:=hs.lim;simp only;omega⟩ G A M (fun j u=>(I j u).resolve_left (by simp)) J
   obtain ⟨ao,⟨d,h1,h2⟩ | ⟨x,k,d,h1,h2⟩⟩:=e
   ·have q:YL C lim ao (ev fr) H=some L0:=by
     unfold stepX at m;rw [h2,h1] at m;exact m
    exact Nyo B d hs.inv hs.lim (fun x h=>hs.fr.ev h) q go
   ·exact Nt6 d hs.inv hs.lim (fun x h=>hs.fr.ev h) h1 h2 m go
theorem ZW (p:CallOkS (Prg.mk P pf) C) {ops:Array Oper} {N:Nat} {Q:Exit->Act->World->Prop} (W:Nat->Prop) (lim:Nat) (d:PO) (H0:NA) (o:World) {l:List AIns} (hl:ops.toList.mapM (YJ P pureF ops)=some l) :
  ∀(m s:Nat) (fr:Nat->Value) (H:NA) (a:Act) (w:World) (σ:PO) (i:List ((Nat->Value)×NA)),
   (∀r∈i,∀a w σ,State (Prg.mk P pf) ds W lim σ N r.1 r.2 a w->Stp W o w->PO.le d σ->Grow lim H0 r.2->(∀j,σ j≠d j->H0.length<=j)->H0.length<=r.2.length->Q .normal a w)->
   s+m=ops.size->State (Prg.mk P pf) ds W lim σ N fr H a w->Stp W o w->PO.le d σ->Grow lim H0 H->(∀j,σ j≠d j->H0.length<=j)->H0.length<=H.length->
   Y9 C N lim (l.drop s) fr H=some i->wpOpsIn (WF ro) 0 P ops Q (List.range' s m) a w
 | 0,s,fr,H,a,w,σ,i,hQ,hs,hst,h1,h2,h3,h4,h5,c=>by
   have b:=(Nag hl).1;have:l.drop s=[]:=by
    apply P8;rw [b];simp;omega
   rw [this] at c;simp [Y9] at c;subst c;simp only [List.range'_zero,wpOpsIn];exact hQ (fr,H) (by simp) a w σ hst h1 h2 h3 h4 h5
 | m+1,s,fr,H,a,w,σ,i,hQ,hs,hst,h1,h2,h3,h4,h5,c=>by
   obtain ⟨b,NE⟩:=Nag hl;have f:s<l.length:=by rw [b];simp;omega
   have g:s<ops.size:=by omega
   rw [Oy f] at c;simp only [Y9] at c;split at c
   case h_2=>cases c
   rename_i L hL;have n:=NE s ops[s] l[s] (by simp [g]) (by simp [f]);rw [List.range'_succ,wpOpsIn_cons];refine N6g p (by simp [g]) n hst hL fun r hr B a' w' u v y z A D=>?_
   obtain ⟨q,k,h⟩:=Vv c r hr;exact ZW p W lim d H0 o hl m (s+1) r.1 r.2 a' w' B q (fun x c=>hQ x (h x c)) (by omega) u (h1.trans v) (PO.le_trans h2 y) (h3.trans z)
    (fun j t=>by
     apply Oe;intro hc;have e1:σ j=d j:=Om fun e=>hc (h4 j e)
     have:=A j (fun e=>t (e.trans e1));omega) (by omega) k
end
end Go.AM



namespace Go.AM
open Go.RowKit
variable {σ τ:PO} {v:Value}
structure EnvOk (P:Program) (E:Env):Prop where
 tr:∀g af,E.tr g=some af->Um P E.pure g=some af
 orcFn:∀g as v,E.orc g as=some v->∃fn,P.funcs[g]? = some fn/\fn.body.isSome=true/\(fn.name == "runtime.NumGoroutine")=false
 orc:∀g as v,E.orc g as=some v->∀w,Calls P g as.toArray w fun e w'=>e=.returned v/\Below w.heap.size w w'/\w.drawn<=w'.drawn
 orcFlat:∀g as v,E.orc g as=some v->∀σ,VRel σ v v
 mixed:P.follows .mixedOrders=true
 effFn:∀g as H r,E.eff g as H=some r->∃fn,P.funcs[g]? = some fn/\fn.body.isSome=true/\(fn.name == "runtime.NumGoroutine")=false
 eff:∀g as H r,E.eff g as H=some r->∀lim,lim<=H.length->YI lim H r.2.2=true->∀W σ w as',Inv (Prg.mk P (Env.pure E)) W lim σ H w->OV σ as as'->Calls P g as'.toArray w (Sj (Prg.mk P (Env.pure E)) W lim σ H r.1 (Nrq H r.2) w)
theorem VRel.eq_of_atom {v':Value} (h:VRel σ v v') (a:AM.atom v=true):v'=v:=by
 cases h with
 | atom _=>rfl
 | func h1 h2 k1 k2=>
   simp [AM.atom] at a;obtain ⟨rfl,rfl⟩:=a;simp at h1 h2;rw [Array.size_eq_zero_iff.1 h1.symm,Array.size_eq_zero_iff.1 h2.symm]
 | tuple h k=>
   simp [AM.atom] at a;subst a;rw [Array.size_eq_zero_iff.1 h.symm]
 | _=>simp [AM.atom] at a
theorem VRel.flat_self:∀(n:Nat) {σ:PO} {v v':Value},VRel σ v v'->flat n v=true->VRel τ v v'
 | 0,σ,v,v',h,hf=>by
   have a:AM.atom v=true:=by cases v<;>simpa [flat] using hf
   rw [h.eq_of_atom a];exact .atom a
 | n+1,σ,v,v',h,hf=>by
   have at':AM.atom v=true->VRel τ v v':=fun a=>by rw [h.eq_of_atom a];exact .atom a
   cases h with
   | agg h k o=>
     simp only [flat,N7] at hf;exact .agg h (fun i h1 h2=>VRel.flat_self n (k i h1 h2) (hf _ (by simp))) o
   | tuple h k=>
     simp only [flat,N7] at hf;exact .tuple h (fun i h1 h2=>VRel.flat_self n (k i h1 h2) (hf _ (by simp)))
   | atom h=>exact .atom h
   | func h1 h2 k1 k2=>exact at' (by simpa [flat] using hf)
   | _=>simp [flat,AM.atom] at hf
theorem Nae {n:Nat} (d:Nat) (h:AM.atom v=true):olds n d v=true:=by
 cases v with
 | pointer o=>
   cases o with
   | none=>cases d<;>rfl
   | some a=>simp [AM.atom] at h
 | map o=>
   cases o with
   | none=>cases d<;>rfl
   | some a=>simp [AM.atom] at h
 | slice o a b=>
   cases o with
   | none=>cases d<;>exact h
   | some a=>simp [AM.atom] at h
 | agg cs=>simp [AM.atom] at h
 | tuple cs=>
   have:cs=#[]:=by simpa [AM.atom] using h
   subst this;cases d<;>rfl
 | _=>cases d<;>exact h
theorem XV {n:Nat}:∀(d:Nat) {v:Value},flat d v=true->olds n d v=true
 | 0,v,h=>Nae 0 (by cases v<;>simpa [flat] using h)
 | d+1,v,h=>by
   cases v with
   | agg cs=>simp only [flat,olds,N7] at h⊢;exact fun x a=>XV d (h x a)
   | tuple cs=>simp only [flat,olds,N7] at h⊢;exact fun x a=>XV d (h x a)
   | _=>exact Nae _ (by simpa [flat] using h)
theorem VRel.olds {n:Nat} (hs:∀i L,i<n->σ i=some L->τ i=some L):∀(d:Nat) {v v':Value},VRel σ v v'->olds n d v=true->VRel τ v v'
 | 0,v,v',h,hf=>by
   cases h with
   | atom h=>exact .atom h
   | ptr h=>exact .ptr (hs _ _ (by simpa [AM.olds] using hf) h)
   | slice h hc=>exact .slice (hs _ _ (by simpa [AM.olds] using hf) h) hc
   | lslice h hn hr=>exact .lslice (hs _ _ (by simpa [AM.olds] using hf) h) hn hr
   | eslice h hc=>exact .eslice (hs _ _ (by simpa [AM.olds] using hf) h) hc
   | map h=>exact .map (hs _ _ (by simpa [AM.olds] using hf) h)
   | func h1 h2 k1 k2=>
     rw [(VRel.func h1 h2 k1 k2).eq_of_atom (by simpa [AM.olds] using hf)];exact .atom (by simpa [AM.olds] using hf)
   | yld h=>simp [AM.olds,AM.atom] at hf
   | agg h k o=>simp [AM.olds,AM.atom] at hf
   | @tuple xs ys h k=>
     have a:AM.atom (.tuple xs)=true:=by simpa [AM.olds] using hf
     rw [(VRel.tuple h k).eq_of_atom a];exact .atom a
 | d+1,v,v',h,hf=>by
   cases h with
   | agg h k o=>
     simp only [AM.olds,N7] at hf;exact .agg h (fun i h1 h2=>VRel.olds hs d (k i h1 h2) (hf _ (by simp))) o
   | tuple h k=>
     simp only [AM.olds,N7] at hf;exact .tuple h (fun i h1 h2=>VRel.olds hs d (k i h1 h2) (hf _ (by simp)))
   | atom h=>exact .atom h
   | ptr h=>exact .ptr (hs _ _ (by simpa [AM.olds] using hf) h)
   | slice h hc=>exact .slice (hs _ _ (by simpa [AM.olds] using hf) h) hc
   | lslice h hn hr=>exact .lslice (hs _ _ (by simpa [AM.olds] using hf) h) hn hr
   | eslice h hc=>exact .eslice (hs _ _ (by simpa [AM.olds] using hf) h) hc
   | map h=>exact .map (hs _ _ (by simpa [AM.olds] using hf) h)
   | func h1 h2 k1 k2=>
     rw [(VRel.func h1 h2 k1 k2).eq_of_atom (by simpa [AM.olds] using hf)];exact .atom (by simpa [AM.olds] using hf)
   | yld h=>simp [AM.olds,AM.atom] at hf
section
variable {P:Program} {pf:FuncId->Bool} {W:Nat->Prop} {lim:Nat} {σ:PO} {H H':NA} {w:World} {ds:List Deferred}
variable {N:Nat} {v:Value} {fr:Nat->Value}
inductive Md where
 | n | m | r (i:Nat)
def trX (P:Program) (pf:FuncId->Bool):Md->Code->Option ACode
 | .n=>XM P pf
 | .m=>Uv P pf
 | .r _=>TF P pf
inductive XC (P:Program) (pf:FuncId->Bool):Md->Code->ACode->Prop
 | skip {md}:XC P pf md .skip .skip
 | plain {md id ops l} (h:ops.toList.mapM (YJ P pf ops)=some l):XC P pf md (.region id ops false) (.ops l)
 | drawn {md id ops n L} (h:VS P pf ops=some (.drawn n L)):XC P pf md (.region id ops true) (.drawn n L)
 | seq {md a b a' b'} (h:trX P pf md a=some a') (k:trX P pf md b=some b'):XC P pf md (.seq a b) (.seq a' b')
 | cond {md c a b a' b'} (ho:QB c=true) (h:trX P pf md a=some a') (k:trX P pf md b=some b'):XC P pf md (.cond c a b) (.cond c a' b')
 | block {md id a a'} (h:trX P pf md a=some a'):XC P pf md (.block id a) (.block id a')
 | loop {md a a'} (h:trX P pf md a=some a'):XC P pf md (.loop a) (.loop a')
 | exit {md id} (h:∀i,md≠.r i):XC P pf md (.exit id) (.exit id)
 | exitR {i id}:XC P pf (.r i) (.exit id) (.exitR id)
 | ret:XC P pf .n .ret .ret
 | retM:XC P pf .m .ret .retM
 | retR {i}:XC P pf (.r i) .ret .retR
 | rangeF {f ps a b a' b'} (ho:QB f=true) (h:TF P pf a=some a') (k:TF P pf b=some b'):XC P pf .m (.rangeFunc f ps a b) (.rangeF f ps.toList a' b')
theorem Ngw {ops:Array Oper} {c:ACode} (h:VS P pf ops=some c):∃n L,c=.drawn n L:=by
 obtain ⟨st,h⟩:∃st,Xn P pf st ops=some c:=by
  unfold VS at h;split at h
  ·rename_i hc;cases h;exact ⟨_,hc⟩
  ·exact ⟨_,h⟩
 unfold Xn at h;obtain ⟨l,hl,h⟩:=OM h;simp only at h
 repeat' (split at h)
 all_goals first
  | (cases h;done)
  | (cases h;exact ⟨_,_,rfl⟩)
theorem Nty {md:Md} {C:Code} {c:ACode} (h:trX P pf md C=some c):XC P pf md C c:=by
 cases md<;>cases C<;>simp only [trX,XM,Uv,TF] at h<;>try (cases h;done)
 all_goals first
  | (cases h;first | exact .skip | exact .exit (by intros;nofun) | exact .exitR | exact .ret | exact .retM | exact .retR;done)
  | (rename_i id ops d
     cases d with
     | false=>simp only [N3,if_false] at h;obtain ⟨l,hl,h⟩:=OM h;cases h;exact .plain hl
     | true=>simp only [if_true] at h;obtain ⟨n,L,rfl⟩:=Ngw h;exact .drawn h
     done)
  | (obtain ⟨f,a,h⟩:=OM h;obtain ⟨g,b,h⟩:=OM h;cases h;exact .seq a b;done)
  | (obtain ⟨f,a,h⟩:=OM h;cases h;first | exact .block a | exact .loop a;done)
  | (split at h
     case isFalse=>cases h
     rename_i e;obtain ⟨f,a,h⟩:=OM h;obtain ⟨g,b,h⟩:=OM h;cases h;first | exact .cond e a b | exact .rangeF e a b
     done)
inductive KRel (P:Program) (pf:FuncId->Bool):Md->List Nat->List AItem->List Item->Prop
 | nilN:KRel P pf .n [] [] []
 | nilM {ms:List Nat}:KRel P pf .m ms (.code .retM::ms.map .mark) []
 | nilR {i:Nat}:KRel P pf (.r i) [] [.round i] []
 | code {md ms c C k K} (h:trX P pf md C=some c) (t:KRel P pf md ms k K):KRel P pf md ms (.code c::k) (.code C::K)
 | inBlock {md ms id k K} (t:KRel P pf md ms k K):KRel P pf md ms (.inBlock id::k) (.inBlock id::K)
 | inLoop {md ms c C k K} (h:trX P pf md C=some c) (t:KRel P pf md ms k K):KRel P pf md ms (.inLoop c::k) (.inLoop C::K)
 | begin {i ms k K} (t:KRel P pf (.r i) ms k K):KRel P pf (.r i) ms (.begin i::k) (.beginRound::K)
theorem Nda {id:Nat}:∀(ms:List Nat),RI id (ms.map .mark)=none
 | []=>rfl
 | i::ms=>by simp only [Oj,RI];exact Nda ms
variable {ms:List Nat} {id:Nat} {K:List Item} {md:Md}
theorem KRel.exit {k k':List AItem} (h:KRel P pf md ms k K) (he:RI id k=some k'):∃K',exitTo id K=some K'/\KRel P pf md ms k' K':=by
 induction h with
 | nilN=>simp [RI] at he
 | nilM=>simp only [RI,Nda] at he;cases he
 | nilR=>simp [RI] at he
 | code h t ih=>simp only [RI] at he;simp only [exitTo];exact ih he
 | inLoop h t ih=>simp only [RI] at he;simp only [exitTo];exact ih he
 | begin t ih=>simp only [RI] at he;simp only [exitTo];exact ih he
 | inBlock t ih=>
   simp only [RI] at he;simp only [exitTo,beq_iff_eq];split at he
   ·rename_i e;rw [Nl e];cases he;exact ⟨_,rfl,t⟩
   ·rename_i e;rw [Ng e];exact ih he
theorem KRel.noExit {k:List AItem} (h:KRel P pf md ms k K) (he:RI id k=none):exitTo id K=none:=by
 induction h with
 | nilN=>rfl
 | nilM=>rfl
 | nilR=>rfl
 | code h t ih=>simp only [RI] at he;simp only [exitTo];exact ih he
 | inLoop h t ih=>simp only [RI] at he;simp only [exitTo];exact ih he
 | begin t ih=>simp only [RI] at he;simp only [exitTo];exact ih he
 | inBlock t ih=>
   simp only [RI] at he;simp only [exitTo,beq_iff_eq];split at he
   ·cases he
   ·rename_i e;rw [Ng e];exact ih he
theorem KRel.roundOf {i:Nat} {k:List AItem} (h:KRel P pf (.r i) ms k K):roundOf k=some i:=by
 generalize hm:Md.r i=md at h
 induction h with
 | nilN=>cases hm
 | nilM=>cases hm
 | nilR=>cases hm;rfl
 | code h t ih=>simp only [AM.roundOf];exact ih hm
 | inLoop h t ih=>simp only [AM.roundOf];exact ih hm
 | begin t ih=>simp only [AM.roundOf];exact ih hm
 | inBlock t ih=>simp only [AM.roundOf];exact ih hm
theorem Nbn:∀(ms:List Nat),marks (ms.map .mark)=ms.reverse
 | []=>rfl
 | i::ms=>by simp only [Oj,marks,Nbn ms,List.reverse_cons]
theorem KRel.marks {k:List AItem} (h:KRel P pf .m ms k K):marks k=ms.reverse:=by
 generalize hm:Md.m=md at h
 induction h with
 | nilN=>cases hm
 | nilM=>simp only [AM.marks];exact Nbn _
 | nilR=>cases hm
 | code h t ih=>simp only [AM.marks];exact ih hm
 | inLoop h t ih=>simp only [AM.marks];exact ih hm
 | begin t ih=>cases hm
 | inBlock t ih=>simp only [AM.marks];exact ih hm
theorem KRel.addMark {k:List AItem} (h:KRel P pf .m ms k K) (i:Nat):KRel P pf .m (ms++[i]) (k++[.mark i]) K:=by
 generalize hm:Md.m=md at h
 induction h with
 | nilN=>cases hm
 | @nilM ms=>have:(KRel P pf .m (ms++[i]) (.code .retM::(ms++[i]).map .mark) []):=.nilM
             simpa using this
 | nilR=>cases hm
 | code h t ih=>subst hm;exact .code h (ih rfl)
 | inLoop h t ih=>subst hm;exact .inLoop h (ih rfl)
 | begin t ih=>cases hm
 | inBlock t ih=>subst hm;exact .inBlock (ih rfl)
def Ngt (lim:Nat) (σ:PO):List Nat->List Deferred->Prop
 | [],ds=>ds=[]
 | i::l,ds=>∃L a,lim<=i/\σ i=some L/\ds={ target:=.collected L.blk,args:=#[] }::a/\Ngt lim σ l a
theorem Ngt.mono {lim:Nat} {σ τ:PO} (a:PO.le σ τ):∀{l:List Nat} {ds:List Deferred},Ngt lim σ l ds->Ngt lim τ l ds
 | [],_,h=>h
 | i::l,_,⟨L,ds',h0,h1,h2,h3⟩=>⟨L,ds',h0,a _ _ h1,h2,Ngt.mono a h3⟩
theorem Inv.pad (h:Inv (Prg.mk P pf) W lim σ H w) (n:Nat):Inv (Prg.mk P pf) W lim σ (H++List.replicate n .dead) w:=by
 have get:∀(j:Nat) b,(H++List.replicate n Blk.dead)[j]? = some b->alive b=true->H[j]? = some b:=fun j b a c=>by
  by_cases d:j<H.length
  ·rw [Oa d] at a;exact a
  ·rw [Oi (by omega),P3] at a;split at a
   ·cases a;simp [alive] at c
   ·cases a
 exact ⟨fun i b a c=>h.blk i b (get i b a c) c,fun i j bi bj Li Lj hi d e ho c=>h.inj i j bi bj Li Lj (get i bi hi (PS ho)) (get j bj d c) e ho c,
  fun i b L a ho=>h.wr i b L (get i b a (PS ho)) ho,h.fresh,fun i hi=>h.dom i (by simp at hi;omega)⟩
variable {a:Act}
theorem Njk (hs:State (Prg.mk P pf) ds W lim σ N fr H a w) {r:ResultVar} {k:ARes} (d:MJ P r=some k) (e:NC fr H k=some v) :
  ∃v',(match r with | .tmp t=>pure (a.tmps.getD t undef) | .cell b t=>do loadVar t (<-asAddr (a.tmps.getD b undef)):Sem Value).run P w=.ok v' w/\VRel σ v v':=by
 cases r with
 | tmp t=>
   simp only [MJ] at d;cases d;simp only [NC] at e;cases e;exact ⟨_,rfl,hs.fr.val t⟩
 | cell b t=>
   simp only [MJ] at d;obtain ⟨n,hn,d⟩:=OM d;obtain ⟨l,f,d⟩:=OM d;have g:=hs.fr.val b;cases l with
   | true=>
     simp at d;subst d;simp only [NC] at e;split at e
     case h_2=>cases e
     rename_i p hp;simp only [Nd] at e;obtain ⟨c,hc,rfl⟩:=e;rw [hp] at g;obtain ⟨L,hL,j,h2⟩:=g.ptr_left;obtain ⟨v',h,i⟩:=Nco (P:=P) hs.inv f hn hL hc;exact ⟨v',by simp only [h2];simp [asAddr,h],i⟩
   | false=>
     simp at d;subst d;simp only [NC] at e;split at e
     case h_2=>cases e
     rename_i p hp;rw [hp] at g;obtain ⟨L,hL,j,h2⟩:=g.ptr_left;obtain ⟨v',h,i⟩:=Ncp (P:=P) hs.inv f hL e;exact ⟨v',by simp only [h2];simp [asAddr,h],i⟩
theorem MW {fr:Nat->Value} {N:Nat} {a:Act} (hs:State (Prg.mk P pf) ds W lim σ N fr H a w):∀{f:List ResultVar} {c:List ARes} {vs:List Value},f.mapM (MJ P)=some c->Vl fr H c=some vs->
  ∃d,(f.mapM (fun r=>(match r with | .tmp t=>pure (a.tmps.getD t undef) | .cell b t=>do loadVar t (<-asAddr (a.tmps.getD b undef)):Sem Value))).run P w=.ok d w/\OV σ vs d
 | [],c,vs,h,hv=>by
   simp at h;subst h;simp [Vl] at hv;subst hv;exact ⟨[],by simp,OV.nil⟩
 | r::f,c,vs,h,hv=>by
   rw [List.mapM_cons] at h;obtain ⟨b,g,h⟩:=OM h;obtain ⟨r',e,h⟩:=OM h;cases h;simp only [Vl] at hv;split at hv
   case h_2=>cases hv
   rename_i v i h1 h2;cases hv;obtain ⟨v',k1,k2⟩:=Njk hs g h1;obtain ⟨d,k3,k4⟩:=MW hs e h2;refine ⟨v'::d, ?_,OV.cons k2 k4⟩;rw [List.mapM_cons];simp only [Sem.run_bind,k1,k3,Result.andThen_ok,Sem.run_pure]
theorem ZV (hs:State (Prg.mk P pf) ds W lim σ N fr H a w) {fn:Func} {d:List ARes} (e:fn.results.toList.mapM (MJ P)=some d) (c:result fr H d=some v) :
  ∃v',(results fn a.tmps).run P w=.ok v' w/\VRel σ v v':=by
 unfold result at c;cases hr:Vl fr H d with
 | none=>rw [hr] at c;cases c
 | some vs=>
   obtain ⟨b,k1,k2⟩:=MW hs e hr;rw [hr] at c;unfold results;rw [Array.mapM_eq_mapM_toList];simp only [Sem.run_bind,Sem.run_map];erw [k1];simp only [Result.andThen_ok,Sem.run_pure];refine ⟨_,rfl, ?_⟩
   match vs,b,k2 with
   | [],b,k2=>
     have:b=[]:=by have:=k2.1;simp at this;exact List.length_eq_zero_iff.1 this.symm
     subst this;simp at c;subst c;exact .atom rfl
   | [x],b,k2=>
     have hl:=k2.1
     match b,hl,k2 with
     | [y],_,k2=>simp at c;subst c;exact k2.head
   | x::y::zs,b,k2=>
     have hl:=k2.1
     match b,hl,k2 with
     | x'::y'::zs',_,k2=>
       simp at c;subst c;have:¬((x'::y'::zs').toArray.size=1):=by simp
       rw [dif_neg this];exact VRel.tuple_iff.2 k2
variable {L:Loc}
theorem Inv.loop (h:Inv (Prg.mk P pf) W lim σ H w) {i:Nat} {x:LoopB} (a:NE H i=.loop x) (hL:σ i=some L):∃lp,w.heap[L.blk]? = some (.loop lp)/\LoopRel (Prg.mk P pf) σ x lp:=by
 obtain ⟨b,h1,h2⟩:=h.blk i _ (RB a rfl) rfl;rw [hL] at h1;cases h1;exact h2
theorem Nec {b:Frame} {a:Act} {todo:List Item} {cs:List Frame}:∀(l:List Nat) (ds:List Deferred) {H H':NA} {w:World},Ngt lim σ l ds->Inv (Prg.mk P pf) W lim σ H w->shut lim l H=some H'->
  ∃w',Steps P (lone { b.atR { a with defers:=ds } todo with mode:=.returning } cs w) (lone { b.atR { a with defers:=[] } todo with mode:=.returning } cs w')/\Inv (Prg.mk P pf) W lim σ H' w'/\Stp W w w'/\H'.length=H.length
 | [],ds,H,H',w,hd,hi,hs=>by
   cases hd;cases hs;exact ⟨w,.refl _ _,hi,Stp.refl _ _,rfl⟩
 | i::l,ds,H,H',w,hd,hi,hs=>by
   obtain ⟨L,c,e,h1,rfl,j⟩:=hd;simp only [shut] at hs;split at hs
   case h_2=>cases hs
   rename_i f;rw [Nl e] at hs;obtain ⟨n,d,g⟩:=hi.blk i _ (RB f rfl) rfl;rw [h1] at d;cases d;obtain ⟨k,m⟩:=hi.putLoop (o:=.deferred none) (b':=.dead) f rfl h1 e trivial (fun h=>by simp [alive] at h);obtain ⟨w',k1,k2,k3,k4⟩:=Nec l c j k hs;refine ⟨w',Steps.head (step_collected (fr:={ b.atR { a with defers:=_::c } todo with mode:=.returning }) (by simp) rfl rfl (run_takeDeferred g)) k1,k2,m.trans k3,by simpa using k4⟩
theorem Nft (h:Inv (Prg.mk P pf) W lim σ H w) {i:Nat} (hL:σ i=some L) (hl:lim<=i) {j:Option ACode} {J:Option Code}
  (a:match j with | none=>J=none | some c=>∃C,J=some C/\Uv P pf C=some c) (he:endRound i j H=some (v,H')) :
  ∃w',(Instr.endRound L.blk J).run P w=.ok v w'/\VRel σ v v/\Inv (Prg.mk P pf) W lim σ H' w'/\Stp W w w':=by
 unfold endRound at he;split at he
 case h_2=>cases he
 rename_i x e;obtain ⟨lp,h1,h2⟩:=h.loop e hL;have d:J.isNone=j.isNone:=by
  cases j with
  | none=>simp only at a;subst a;rfl
  | some c=>obtain ⟨C,rfl,_⟩:=a;rfl
 have b:L.blk<w.heap.size:=(Array.getElem?_eq_some_iff.1 h1).1;simp only [Option.some.injEq,Prod.mk.injEq] at he;obtain ⟨rfl,rfl⟩:=he;obtain ⟨f,g⟩:=h.putLoop (o:=.loop { lp with state:=if J.isNone then .ready else .done,pending:=J }) (b':=.loop { x with st:=if j.isNone then 0 else 2,pend:=j }) e rfl hL hl
  ⟨_,World.putObj_heap_same b,by rw [d];cases j<;>rfl,a,h2.size,h2.val,h2.params,h2.assign,h2.body⟩ (fun _=>rfl)
 exact ⟨_,by rw [run_endRound J h1,d],.atom rfl,f,g⟩
end
section
variable {P:Program} {E:Env} {W:Nat->Prop} {lim:Nat} {σ:PO} {H H':NA} {w:World} {ds:List Deferred} {ro:Option Nat}
variable {w1:World} {K c:List Item} {as as':List Value} {a a1:Act} {v:Value} {x:LoopB} {md:Md} {g:FuncId} {id N:Nat} {cs:List Frame} {R:List (Value×NA)} {fr:Nat->Value} {ops:Array Oper} {H1:NA} {b:Frame} {af:AFunc}
theorem Njm {C:Tw} (b:CallOkS (Prg.mk P (Env.pure E)) C) {pf:FuncId->Bool} {l:List AIns} (hl:ops.toList.mapM (YJ P pf ops)=some l)
  (hs:State (Prg.mk P (Env.pure E)) ds W lim σ N fr H a w) {LL} (d:Y9 C N lim l fr H=some LL):(Code.region id ops false).wpIn (WF ro) 0 P (fun e a' w'=>∃r∈LL,N7l (Prg.mk P (Env.pure E)) ds W lim σ N r.1 H r.2 w e a' w') a w:=by
 refine wpIn_region ?_;rw [List.range_eq_range'];exact ZW b W lim σ H w hl ops.size 0 fr H a w σ LL (fun r hr a w1 n f g h i k m=>⟨r,hr,rfl,n,f,g,h,i,k,m⟩) (by simp) hs (Stp.refl _ _) (PO.le_refl _) (Grow.refl _ _) (fun j c=>absurd rfl c) (Nf _) (by simpa using d)
theorem Todo.start {ord:List Nat} (hm:∀i,i∈ord↔i<ops.size):Todo ops ord (Array.replicate ops.size false) ord:=by
 refine ⟨fun i=>?_,List.Sublist.refl _,by simp,fun i o ho hl=>?_⟩
 ·rw [hm];constructor
  ·intro hi;refine ⟨hi, ?_⟩;rw [N8,Of (by simpa using hi)];simp
  ·exact fun h=>h.1
 ·exfalso;rw [N8,Array.getElem?_replicate] at hl;split at hl<;>simp at hl
theorem Njn {C:Ul} (l:CallOk (Prg.mk P (Env.pure E)) C) {pf:FuncId->Bool} (hm:P.follows .mixedOrders=true) {n:Nat} {L:List AIns} (hl:VS P pf ops=some (.drawn n L)) {fr':Nat->Value}
  (hs:State (Prg.mk P (Env.pure E)) ds W lim σ N fr H a w) (p:Zk C N lim (some H.length) L fr (H++List.replicate n .dead)=some (fr',H')):(Code.region id ops true).wpIn (WF ro) 0 P (fun e a' w'=>e=.normal/\∃k,State (Prg.mk P (Env.pure E)) ds W lim k N fr' H' a' w'/\Stp W w w'/\PO.le σ k/\(∀j,k j≠σ j->H.length<=j)) a w:=by
 refine wpIn_region_any hm ?_;obtain ⟨ord,L0,pl,rfl⟩:=Nrr hl;have d:ord.length=ops.size:=by
  have h1:ord.Perm (List.range ops.size):=(List.perm_ext_iff_of_nodup pl.nodup List.nodup_range).2 fun i=>by rw [pl.mem,List.mem_range]
  rw [h1.length_eq,Pe]
 have h:State (Prg.mk P (Env.pure E)) ds W lim σ N fr (H++List.replicate n .dead) a w.drew:=⟨hs.fr,(hs.inv.pad n).drew,by have:=hs.lim;simp;omega⟩
 refine Niv l pl fr' H' W lim hs.lim σ (H++List.replicate n .dead) w.drew (fun a w1 v q s t x u y=>⟨rfl,v,q,Stp.drew.trans s,t,u⟩) ops.size _ ord fr _ a w.drew σ d (Todo.start pl.mem) h (Stp.refl _ _) (PO.le_refl _) (Grow.refl _ _)
  (fun j o=>absurd rfl o) (Nf _) ⟨by simp,fun r hr b c m=>?_,fun r hr=>hs.inv.dom _ (by omega),fun r hr=>?_⟩ ?_
 ·rw [Oi (by omega),P3] at c;split at c
  ·cases c;simp [alive] at m
  ·cases c
 ·obtain ⟨b,c,g⟩:=List.mem_filterMap.1 hr;have f:b<L0.length:=by rw [pl.len];exact (pl.mem b).1 c
  exact pl.dest b _ r (by rw [Nb,Ni f];rfl) (Nbo g)
 ·exact p
def Fin (P:Program) (md:Md) (b:Frame) (cs:List Frame) (m:Machine) (v':Value) (w':World):Prop:=
 match md with
 | .r _=>∃c cs',cs=c::cs'/\m=lone (c.finish v') cs' w'
 | _=>∃fr,m=lone fr cs w'/\fr.fn=b.fn/\fr.leaving P w' (.returned v')
def Yy (P:Program) (pf:FuncId->Bool) (W:Nat->Prop) (lim:Nat) (σ:PO) (md:Md) (v:Value) (H H':NA) (w:World) (b:Frame) (K:List Item) (cs:List Frame) (a:Act):Prop:=
 ∃m v' w' c,Steps P (lone (b.atR a K) cs w) m/\Fin P md b cs m v' w'/\VRel c v v'/\Inv (Prg.mk P pf) W lim c H' w'/\Stp W w w'/\PO.le σ c/\∀j,c j≠σ j->H.length<=j
theorem Yy.step {pf:FuncId->Bool} (h:step P (lone (b.atR a K) cs w)=.next (lone (b.atR a c) cs w)) (k:Yy P pf W lim σ md v H H' w b c cs a):Yy P pf W lim σ md v H H' w b K cs a:=by
 obtain ⟨a',w',d,fr',h1,h2⟩:=k;exact ⟨a',w',d,fr',Steps.head h h1,h2⟩
theorem Yy.steps {pf:FuncId->Bool} {g:List Item} {c:PO} (h:Steps P (lone (b.atR a K) cs w) (lone (b.atR a1 g) cs w1)) (f:Stp W w w1) (d:PO.le σ c) (hd:∀j,c j≠σ j->H.length<=j) (r:H.length<=H1.length)
  (k:Yy P pf W lim c md v H1 H' w1 b g cs a1):Yy P pf W lim σ md v H H' w b K cs a:=by
 obtain ⟨m,v',w',q,h1,h2,i,l,h5,n,o⟩:=k;refine ⟨m,v',w',q,Steps.trans h h1,h2,i,l,f.trans h5,PO.le_trans d n,fun j p=>?_⟩;apply Om;intro hc;have e1:c j=σ j:=Om fun e=>hc (hd j e)
 have:=o j (fun e=>p (e.trans e1));omega
def QW (P:Program) (pf:FuncId->Bool) (W:Nat->Prop) (lim:Nat) (σ:PO) (md:Md) (R:List (Value×NA)) (H:NA) (w:World) (b:Frame) (K:List Item) (cs:List Frame) (a:Act):Prop:=
 ∃r∈R,Yy P pf W lim σ md r.1 H r.2 w b K cs a
theorem QW.step {pf:FuncId->Bool} (h:step P (lone (b.atR a K) cs w)=.next (lone (b.atR a c) cs w)) (k:QW P pf W lim σ md R H w b c cs a):QW P pf W lim σ md R H w b K cs a:=by
 obtain ⟨r,hr,k⟩:=k;exact ⟨r,hr,k.step h⟩
theorem QW.steps {pf:FuncId->Bool} {g:List (Value×NA)} {f:List Item} {e:PO} (h:Steps P (lone (b.atR a K) cs w) (lone (b.atR a1 f) cs w1)) (d:Stp W w w1) (c:PO.le σ e) (hd:∀j,e j≠σ j->H.length<=j) (i:H.length<=H1.length)
  (k:QW P pf W lim e md g H1 w1 b f cs a1) (l:∀x∈g,x∈R):QW P pf W lim σ md R H w b K cs a:=by
 obtain ⟨r,hr,k⟩:=k;exact ⟨r,l r hr,k.steps h d c hd i⟩
def Cx (P:Program) (σ:PO) (md:Md) (af:AFunc) (b:Frame) (cs:List Frame):Prop:=
 b.kind=.normal/\match md with
 | .r i=>∃L c cs',b.roundOf=some L.blk/\σ i=some L/\cs=c::cs'
 | _=>b.roundOf=none/\∃fn,P.funcs[b.fn]? = some fn/\fn.results.toList.mapM (MJ P)=some af.results
theorem Cx.mono {σ τ:PO} (a:PO.le σ τ) (h:Cx P σ md af b cs):Cx P τ md af b cs:=by
 refine ⟨h.1, ?_⟩;have h2:=h.2;cases md with
 | r i=>obtain ⟨L,c,cs',d,e,f⟩:=h2;exact ⟨L,c,cs',d,a _ _ e,f⟩
 | _=>exact h2
theorem Inv.enterLoop (h:Inv (Prg.mk P (Env.pure E)) W lim σ H w) {lp:Loop} (z:LoopRel (Prg.mk P (Env.pure E)) σ x lp) :
  ∃g,Inv (Prg.mk P (Env.pure E)) W lim g (H++[.dfr,.loop x]) ((w.alloc (.deferred (some []))).alloc (.loop lp))/\PO.le σ g/\g H.length=some ⟨w.heap.size,0,0⟩/\g (H.length+1)=some ⟨w.heap.size+1,0,0⟩/\∀j,g j≠σ j->H.length<=j:=by
 have c:∀{H:NA} {w:World} {σ:PO} (h:Inv (Prg.mk P (Env.pure E)) W lim σ H w) {b:Blk} {o:Obj},owned b=true->UV (Prg.mk P (Env.pure E)) (σ.put H.length ⟨w.heap.size,0,0⟩) (w.alloc o) ⟨w.heap.size,0,0⟩ b->Inv (Prg.mk P (Env.pure E)) W lim (σ.put H.length ⟨w.heap.size,0,0⟩) (H++[b]) (w.alloc o):=by
  intro H w σ h b o ho n;have y:Inv (Prg.mk P (Env.pure E)) W lim σ H (w.alloc o):=h.world (by simp) fun b n=>by rw [U7,P5];rw [Ng (by omega)]
  obtain ⟨r,s,B,t,C,D,F⟩:=Ud (dest:=none) (b:=b) (H:=H) (show place none b H=(H.length,H++[b]) from rfl) (fun d e=>by cases e);refine y.adopt r s t (h.dom _ (Nf _)) n ho (h.fresh _ (Nf _)) fun j bj Lj v k m i e=>?_
  obtain ⟨A,h1,h2⟩:=h.blk j bj k m;rw [i] at h1;cases h1;have:=h2.lt m;simp at e;omega
 have p:=c h (b:=.dfr) (o:=.deferred (some [])) rfl (by show (w.alloc _).heap[_]? = _;simp [U7]);have f:PO.le σ (σ.put H.length ⟨w.heap.size,0,0⟩):=PO.le_put (h.dom _ (Nf _));have l:=p.dom (H.length+1) (by simp);have a:=PO.le_put (L:=⟨w.heap.size+1,0,0⟩) l;have q:=c p (b:=.loop x) (o:=.loop lp) rfl (by
  refine ⟨lp,World.alloc_heap_new _ _, ?_⟩;simp only [Nk,Nm,Nn,World.size_alloc] at a⊢;exact (z.mono f).mono a)
 simp only [Nk,Nm,Nn,World.size_alloc,No,Ox,Og] at q;refine ⟨_,q,PO.le_trans f a, ?_,PO.put_same,fun j u=>?_⟩
 ·simp [PO.put]
 ·apply Om;intro hc;refine u ?_;simp only [PO.put];rw [Ng (by omega),Ng (by omega)]
theorem Nbf (hE:EnvOk P E) (n:Nat) (hC:∀m,m<n->CallOkS (Prg.mk P (Env.pure E)) (R4 E m)):∀(m:Nat),m<=n->∀{md:Md} {ms:List Nat} {ds:List Deferred} {af:AFunc} {k:List AItem} {fr:Nat->Value} {σ:PO} {H:NA} {w:World} {R:List (Value×NA)} {K:List Item} {a:Act} (b:Frame) (cs:List Frame),
   PK E m af lim k fr H=some R->KRel P E.pure md ms k K->(md=.n->ms=[])->Ngt lim σ ms.reverse ds->Cx P σ md af b cs->(∀i,md=.r i->lim<=i)->State (Prg.mk P (Env.pure E)) ds W lim σ af.ntmps fr H a w->
   QW P E.pure W lim σ md R H w b K cs a:=by
 intro m
 induction m using Nat.strongRecOn with
 | ind m ih=>
 intro hm md ms ds af k fr σ H w R K a b cs hx hK hms hds hcx hri hs;cases m with
 | zero=>simp [PK] at hx
 | succ m=>
 have ih':∀{k:List AItem} {K:List Item},PK E m af lim k fr H=some R->KRel P E.pure md ms k K->QW P E.pure W lim σ md R H w b K cs a:=fun hx hK=>ih m (by omega) (by omega) b cs hx hK hms hds hcx hri hs
 have finN:md=.n->∀{todo:List Item},step P (lone (b.atR a K) cs w)=.next (lone { b.atR a todo with mode:=.returning } cs w)->one ((result fr H af.results).map (·,H))=some R->QW P E.pure W lim σ md R H w b K cs a:=fun hmd todo hst h=>by
  subst hmd;rw [hms rfl] at hds;cases hds;obtain ⟨hk,hro,fn,hfn,hrs⟩:=hcx;obtain ⟨x,h',rfl⟩:=V9 h;simp only [Nd] at h';obtain ⟨v,h1,rfl⟩:=h';obtain ⟨v',h7,h8⟩:=ZV hs hrs h1;exact ⟨_,Nq.2 rfl,_,v',w,σ,.one hst,⟨_,rfl,rfl,rfl,hs.fr.defers,hk,fn,hfn,h7⟩,h8,hs.inv,Stp.refl _ _,PO.le_refl _,fun j hj=>absurd rfl hj⟩
 have VM:md=.m->marks k=marks k->∀{todo:List Item} {ks:List AItem},marks ks=ms.reverse->step P (lone (b.atR a K) cs w)=.next (lone { b.atR a todo with mode:=.returning } cs w)->
   (match shut lim (marks ks) H with | some H'=>one ((result fr H' af.results).map (·,H')) | none=>none)=some R->QW P E.pure W lim σ md R H w b K cs a:=fun hmd _ todo ks hmk hst h=>by
  subst hmd;obtain ⟨hk,hro,fn,hfn,hrs⟩:=hcx;split at h
  case h_2=>cases h
  rename_i H1 hsh;rw [hmk] at hsh;obtain ⟨w1,k1,k2,k3,k4⟩:=Nec (b:=b) (a:=a) (todo:=todo) (cs:=cs) _ ds hds hs.inv hsh;obtain ⟨x,h',rfl⟩:=V9 h;simp only [Nd] at h';obtain ⟨v,h1,rfl⟩:=h';have hs1:State (Prg.mk P (Env.pure E)) ds W lim σ af.ntmps fr H1 a w1:=⟨hs.fr,k2,by rw [k4];exact hs.lim⟩
  obtain ⟨v',h7,h8⟩:=ZV hs1 hrs h1;have ea:{ a with defers:=ds }=a:=by rw [<-hs.fr.defers]
  rw [ea] at k1;exact ⟨_,Nq.2 rfl,_,v',w1,σ,Steps.head hst k1,⟨_,rfl,rfl,rfl,rfl,hk,fn,hfn,h7⟩,h8,k2,k3,PO.le_refl _,fun j hj=>absurd rfl hj⟩
 have finR:∀{i:Nat} {j:Option ACode} {J:Option Code},md=.r i->(match j with | none=>J=none | some c=>∃C,J=some C/\Uv P E.pure C=some c)->
   (∀{L c cs' v w'},b.roundOf=some L->b.kind=.normal->cs=c::cs'->(Instr.endRound L J).run P w=.ok v w'->step P (lone (b.atR a K) (c::cs') w)=.next (lone (c.finish v) cs' w'))->
   one (endRound i j H)=some R->QW P E.pure W lim σ md R H w b K cs a:=fun {i j J} hmd hj hst h=>by
  subst hmd;obtain ⟨hk,L,c,cs',hro,hL,rfl⟩:=hcx;obtain ⟨⟨v,H'⟩,h',rfl⟩:=V9 h;obtain ⟨w1,h1,h2,h3,h4⟩:=Nft hs.inv hL (hri i rfl) hj h';exact ⟨_,Nq.2 rfl,_,v,w1,σ,.one (hst hro hk rfl h1),⟨c,cs',rfl,rfl⟩,h2,h3,h4,PO.le_refl _,fun j hj=>absurd rfl hj⟩
 rw [PK.eq_def] at hx;simp only at hx;cases hK with
 | nilN=>exact finN rfl (stepR_end hcx.2.1) hx
 | nilM=>exact VM rfl rfl (Nbn ms) (stepR_end hcx.2.1) hx
 | @nilR i=>
   simp only at hx;split at hx
   case isFalse=>cases hx
   exact finR rfl (J:=none) rfl (fun {L c cs' v w'} h1 h2 h3 h4=>stepR_round_end h1 h2 h4) hx
 | inBlock t=>exact QW.step stepR_inBlock (ih' hx t)
 | inLoop h t=>exact QW.step stepR_inLoop (ih' hx (.code h (.inLoop h t)))
 | @begin i ms k K t=>
   simp only at hx;split at hx
   case h_2=>cases hx
   rename_i x hb;split at hx
   case isFalse=>cases hx
   rename_i hc;obtain ⟨hk,L,c,cs',hro,hL,rfl⟩:=hcx;obtain ⟨lp,h1,h2⟩:=hs.inv.loop hb hL;have hlt:L.blk<w.heap.size:=(Array.getElem?_eq_some_iff.1 h1).1;obtain ⟨i1,i2⟩:=hs.inv.putLoop (o:=.loop { lp with state:=.busy }) (b':=.loop { x with st:=1 }) hb rfl hL hc.2
    ⟨_,World.putObj_heap_same hlt,rfl,h2.pend,h2.size,h2.val,h2.params,h2.assign,h2.body⟩ (fun _=>rfl)
   have hst:lp.state=.ready:=by rw [h2.st,hc.1];rfl
   refine QW.steps (.one (stepR_beginRound hro (run_beginRound h1 hst))) i2 (PO.le_refl _) (fun j hj=>absurd rfl hj) (by simp) (ih m (by omega) (by omega) b _ hx t hms hds ⟨hk,L,c,cs',hro,hL,rfl⟩ hri ⟨hs.fr,i1,by have:=hs.lim;simpa using this⟩) (fun x hx=>hx)
 | @code md ms c C k K h t=>
   cases Nty h with
   | skip=>exact QW.step stepR_skip (ih' hx t)
   | @plain _ id ops l hl=>
     simp only at hx;obtain ⟨LL,h1,h2⟩:=Neu E l m af lim k fr H _ hx;have hCm:=hC (m-1) (by omega);obtain ⟨e,a1,w1,hq,harr⟩:=Njm (ro:=b.roundOf) hCm (id:=id) hl hs h1 b K cs rfl trivial (room_wide _);obtain ⟨r,hr,rfl,σ1,q1,q2,q3,q4,q5,q6⟩:=hq;obtain ⟨m1,R',g1,g2,g3⟩:=h2 r hr;exact QW.steps (StepsIn.steps harr) q2 q3 q5 q6 (ih m1 (by omega) (by omega) b cs g2 t hms (hds.mono q3) (hcx.mono q3) hri q1) g3
   | @drawn _ id ops nn L hdr=>
     simp only at hx;obtain ⟨m1,fr1,H1,h1,h2,h3⟩:=Nhy E L m af lim H.length k fr _ _ hx;have hCm:=hC (m-1) (by omega);obtain ⟨e,a1,w1,hq,harr⟩:=Njn (ro:=b.roundOf) hCm.det hE.mixed (id:=id) hdr hs h2 b K cs rfl trivial (room_wide _);obtain ⟨rfl,σ1,q1,q2,q3,q5⟩:=hq;have hlen:H.length<=H1.length:=by
      have key:∀(l:List AIns) (fr fr1:Nat->Value) (H0 H1:NA),lim<=H0.length->Zk (det (R4 E (m-1))) af.ntmps lim (some H.length) l fr H0=some (fr1,H1)->H0.length<=H1.length:=by
       intro l
       induction l with
       | nil=>intro fr fr1 H0 H1 _ hx;simp [Zk] at hx;rw [hx.2];exact Nf _
       | cons i l ih=>
         intro fr fr1 H0 H1 hl hx;obtain ⟨f2,H2,g1,g2⟩:=XD hx;obtain ⟨g3,_⟩:=Nfe hCm.grow.det g1 (fun b e=>by cases e;exact hs.lim) hl;have:=ih _ _ _ _ (by omega) g2;omega
      have:=key L fr fr1 _ H1 (by have:=hs.lim;simp;omega) h2;simp at this;omega
     exact QW.steps (StepsIn.steps harr) q2 q3 q5 hlen (ih m1 (by omega) (by omega) b cs h3 t hms (hds.mono q3) (hcx.mono q3) hri q1) (fun x hx=>hx)
   | seq hx' hy'=>exact QW.step stepR_seq (ih' hx (.code hx' (.code hy' t)))
   | @cond _ o x y x' y' hok hx' hy'=>
     have hev:=hs.fr.ev hok;simp only at hx;cases he:ev fr o<;>rw [he] at hx hev<;>(try (cases hx;done))
     rename_i t';have hb:=hev.bool_left;cases t' with
     | true=>exact QW.step (stepR_cond hb) (ih' hx (.code hx' t))
     | false=>exact QW.step (stepR_cond hb) (ih' hx (.code hy' t))
   | block hx'=>exact QW.step stepR_block (ih' hx (.code hx' (.inBlock t)))
   | loop hx'=>exact QW.step stepR_loop (ih' hx (.code hx' (.inLoop hx' t)))
   | exit hmd=>
     simp only at hx;split at hx
     case h_2=>cases hx
     rename_i k' hk';obtain ⟨K',h1,h2⟩:=t.exit hk';exact QW.step (stepR_exit h1) (ih' hx h2)
   | @exitR i id=>
     simp only at hx;split at hx
     ·rename_i k' hk';obtain ⟨K',h1,h2⟩:=t.exit hk';exact QW.step (stepR_exit h1) (ih' hx h2)
     ·rename_i hk';rw [t.roundOf] at hx;simp only at hx;split at hx
      case isFalse=>cases hx
      exact finR rfl (j:=some (.exit id)) (J:=some (.exit id)) ⟨_,rfl,rfl⟩ (fun {L c cs' v w'} h1 h2 h3 h4=>stepR_round_exit h1 h2 (t.noExit hk') h4) hx
   | ret=>exact finN rfl (stepR_ret hcx.2.1) hx
   | retM=>exact VM rfl rfl t.marks (stepR_ret hcx.2.1) hx
   | retR=>
     simp only at hx;rw [t.roundOf] at hx;simp only at hx;split at hx
     case isFalse=>cases hx
     exact finR rfl (j:=some .retM) (J:=some .ret) ⟨_,rfl,rfl⟩ (fun {L c cs' v w'} h1 h2 h3 h4=>stepR_round_ret h1 h2 h4) hx
   | @rangeF f ps x y x' y' hok hx' hy'=>
     have hCm:=hC m (by omega);have hev:=hs.fr.ev hok;simp only at hx;split at hx
     case h_2=>cases hx
     rename_i g as hcl;unfold NF at hcl;split at hcl
     case h_2=>simp at hcl
     case h_3=>cases hcl
     rename_i g' fi ca hf;simp only [Option.some.injEq,Prod.mk.injEq,Sum.inl.injEq] at hcl;obtain ⟨rfl,rfl⟩:=hcl;rw [hf] at hev;obtain ⟨fi',ca',hf',hfi,hca⟩:=hev.func_left;split at hx
     case h_2=>cases hx
     rename_i L2 hcall;obtain ⟨hk,hro,fn0,hfn0,hrs0⟩:=hcx;have hxl:LoopRel (Prg.mk P (Env.pure E)) σ ⟨0,none,fr,af.ntmps,ps.toList,x',y'⟩ { state:=.ready,pending:=none,fn:=b.fn,tmps:=a.tmps,params:=ps,assign:=x,body:=y,defers:=w.heap.size }:=
      ⟨rfl,rfl,hs.fr.size,hs.fr.val,rfl,hx',hy'⟩
     obtain ⟨σ1,i1,hle1,hl1,hl2,hch1⟩:=hs.inv.enterLoop hxl;obtain ⟨fn,g1,g2,g3⟩:=hCm.fn _ _ _ _ _ _ hcall;have hargs:OV σ1 (fi.toList++[.func (.yield (H.length+1)) #[] #[]]++ca.toList) (fi'.toList++[.func (.yield (w.heap.size+1)) #[] #[]]++ca'.toList):=
      ((hfi.mono hle1).append (OV.cons (.yld hl2) OV.nil)).append (hca.mono hle1)
     have hcalls:=hCm.calls _ _ _ _ _ _ hcall (by have:=hs.lim;simp;omega) W σ1 _ _ i1 hargs;have hkc:∀v,a.eval (.const v)=v:=fun _=>rfl
     have hbn:fn.body≠none:=fun h=>by rw [h] at g2;cases g2
     have h3':¬(fn.name= "runtime.NumGoroutine"):=by simpa using g3
     have ea:(fi'.toList++[Value.func (.yield (w.heap.size+1)) #[] #[]]++ca'.toList).toArray=fi'++#[Value.func (.yield (w.heap.size+1)) #[] #[]]++ca':=by apply Array.ext';simp
     rw [ea] at hcalls;have henter:=stepR_rangeFunc (P:=P) (b:=b) (a:=a) (k:=K) (cs:=cs) (w:=w) (g:=f) (ps:=ps) (assign:=x) (body:=y) (f:=g') (args:=fi'++#[Value.func (.yield (w.heap.size+1)) #[] #[]]++ca')
      (show (Instr.enterLoop b.fn a.tmps ps x y b.roundOf).run P w=.ok (w.heap.size+1,[{ target:=.collected w.heap.size,args:=#[] }])
       ((w.alloc (.deferred (some []))).alloc (.loop { state:=.ready,pending:=none,fn:=b.fn,tmps:=a.tmps,params:=ps,assign:=x,body:=y,defers:=w.heap.size })) by rw [hro];exact run_enterLoop_outer _ _ _ _ _)
      (show (resolve a.eval (rangeCall f (w.heap.size+1)) 0).run P _=.ok { target:=.fn (.func g') ca',args:=fi'++#[Value.func (.yield (w.heap.size+1)) #[] #[]] } _ by
       simp [resolve,Deferred.ofValue,hf',hkc];rfl)
      (show (invoke (.fn (.func g') ca') (fi'++#[Value.func (.yield (w.heap.size+1)) #[] #[]])).run P _=.ok (.enter g' _) _ by
       simp [invoke,callFunc,g1,h3',hbn];rfl)
     obtain ⟨e,w3,fr3,⟨⟨v2,H2⟩,hr2,v3,σ3,rfl,q1,q2,q3,q4,q5⟩,hcome,hfr3,hlv⟩:=hcalls (b.atR { a with defers:=[{ target:=.collected w.heap.size,args:=#[] }]++a.defers } (.inRangeFunc (w.heap.size+1)::K)::cs);obtain ⟨R',hx,hsub⟩:=Vv hx _ hr2;simp only at hx q2;split at hx
     case h_2=>cases hx
     rename_i xx hb;split at hx
     ·cases hx
     rename_i hst;have hL3:σ3 (H.length+1)=some ⟨w.heap.size+1,0,0⟩:=q4 _ _ hl2;obtain ⟨lp,h1,h2⟩:=q2.loop hb hL3;have hnb:lp.state≠.busy:=fun e=>by
      rw [h2.st] at e;unfold Ob8 at e;split at e<;>first | (cases e;done) | skip
      rename_i h;exact hst h
     have hlimx:lim<=H.length+1:=by have:=hs.lim;omega
     obtain ⟨i3,s3⟩:=q2.putLoop (o:=.loop { lp with state:=.exhausted }) (b':=.dead) hb rfl hL3 hlimx trivial (fun h=>by simp [alive] at h);have hall:Steps P (lone (b.atR a (.code (.rangeFunc f ps x y)::K)) cs w) (lone (b.atR { a with defers:=[{ target:=.collected w.heap.size,args:=#[] }]++a.defers } ((lp.pending.map Item.code).toList++K)) cs (w3.putObj (w.heap.size+1) (.loop { lp with state:=.exhausted }))):=by
      refine Steps.head henter (Steps.trans hcome (Steps.head (step_leave_returned hlv) ?_));rw [finish_atR_inRangeFunc];exact .one (stepR_endRangeFunc (run_endLoop h1 hnb))
     have hst1:Stp W w ((w.alloc (.deferred (some []))).alloc (.loop { state:=.ready,pending:=none,fn:=b.fn,tmps:=a.tmps,params:=ps,assign:=x,body:=y,defers:=w.heap.size })):=
      (Stp.alloc hs.inv.fresh _).trans (Stp.alloc (fun k hk=>hs.inv.fresh k (by simp at hk;omega)) _)
     have hlen2:H.length+2<=H2.length:=by
      have:=(hCm.grow _ _ _ _ _ _ hcall (by have:=hs.lim;simp;omega) _ hr2).1;simpa using this
     have hle3:PO.le σ σ3:=PO.le_trans hle1 q4;have hpend:=h2.pend;refine QW.steps hall (hst1.trans (q3.trans s3)) hle3 (fun j hj=>?_) (by simp;omega) (ih m (by omega) (by omega) (ms:=ms++[H.length]) (ds:={ target:=.collected w.heap.size,args:=#[] }::ds) b cs hx ?_ (fun h=>by cases h) ?_ ⟨hk,hro,fn0,hfn0,hrs0⟩ (fun i h=>by cases h) ⟨?_,i3,by have:=hs.lim;simp;omega⟩) hsub
     ·apply Om;intro hc;have e1:σ1 j=σ j:=Om fun e=>hc (hch1 j e)
      have:=q5 j (fun e=>hj (e.trans e1));simp at this;omega
     ·have tm:=t.addMark H.length;cases hp:xx.pend with
      | none=>rw [hp] at hpend;simp only at hpend;rw [hpend];simpa using tm
      | some c=>
        rw [hp] at hpend;obtain ⟨C,hC1,hC2⟩:=hpend;rw [hC1];exact .code (md:=.m) hC2 tm
     ·rw [List.reverse_append];exact ⟨⟨w.heap.size,0,0⟩,ds,hs.lim,q4 _ _ hl1,rfl,hds.mono hle3⟩
     ·exact ⟨hs.fr.size,by simp [hs.fr.defers],fun t=>(hs.fr.val t).mono hle3⟩
theorem Nrd (h:OV σ as as') (fn:Func):FrRel [] σ fn.ntmps (NG as) { tmps:=as'.toArray++Array.replicate (fn.ntmps-as'.toArray.size) undef,defers:=[] }:=by
 refine ⟨by simp;omega,rfl,fun t=>?_⟩;unfold NG;rw [N8,Nb];by_cases b:t<as.length
 ·have a:t<as'.length:=by rw [<-h.1];exact b
  rw [Array.getElem?_append_left (by simpa using a),Ni b];simp only [List.getElem?_toArray,Ni a,Pj];exact h.2 t _ _ (Ni b) (Ni a)
 ·have a:as'.toArray.size<=t:=by simp [<-h.1];omega
  rw [N0 (by omega),Array.getElem?_append_right a,Array.getElem?_replicate];have c:VRel σ undef undef:=.atom rfl;split<;>exact c
theorem XL {pf:FuncId->Bool} (ht:Um P pf g=some af):∃fn body md c rs,P.funcs[g]? = some fn/\fn.body=some body/\trX P pf md body=some c/\fn.results.toList.mapM (MJ P)=some rs/\(fn.name == "runtime.NumGoroutine")=false/\
  ((md=.n/\af={ ntmps:=fn.ntmps,results:=rs,body:=c })\/(md=.m/\af={ ntmps:=fn.ntmps,results:=rs,body:=.seq c .retM })):=by
 unfold Um at ht;split at ht
 ·rename_i a ha;cases ht;unfold Nsn at ha;obtain ⟨fn,hfn,ht⟩:=OM ha;obtain ⟨body,hb,ht⟩:=OM ht;obtain ⟨c,hc,ht⟩:=OM ht;obtain ⟨rs,hrs,ht⟩:=OM ht;split at ht
  ·cases ht
  ·rename_i hn;cases ht;exact ⟨fn,body,.n,c,rs,hfn,hb,hc,hrs,by simpa using hn,.inl ⟨rfl,rfl⟩⟩
 ·unfold Nso at ht;obtain ⟨fn,hfn,ht⟩:=OM ht;obtain ⟨body,hb,ht⟩:=OM ht;obtain ⟨c,hc,ht⟩:=OM ht;obtain ⟨rs,hrs,ht⟩:=OM ht;split at ht
  ·cases ht
  ·rename_i hn;cases ht;exact ⟨fn,body,.m,c,rs,hfn,hb,hc,hrs,by simpa using hn,.inr ⟨rfl,rfl⟩⟩
theorem Nf4 (y:EnvOk P E) (n:Nat) (x:∀m,m<n->CallOkS (Prg.mk P (Env.pure E)) (R4 E m)) (B:Um P E.pure g=some af) (l:PK E n af lim [.code af.body] (NG as) H=some R) (hl:lim<=H.length)
  (f:Inv (Prg.mk P (Env.pure E)) W lim σ H w) (z:OV σ as as'):Calls P g as'.toArray w fun e w'=>∃r∈R,Sj (Prg.mk P (Env.pure E)) W lim σ H r.1 r.2 w e w':=by
 obtain ⟨fn,body,md,c,C,d,A,hc,j,hn,u⟩:=XL B;intro cs;let b:Frame:={ (default:Frame) with fn:=g,kind:=.normal,roundOf:=none }
 have a:Frame.enter P g as'.toArray .normal=b.atR { tmps:=as'.toArray++Array.replicate (fn.ntmps-as'.toArray.size) undef,defers:=[] } [.code body]:=by
  simp [Frame.enter,Frame.atR,d,A,b]
 have k:State (Prg.mk P (Env.pure E)) [] W lim σ fn.ntmps (NG as) H { tmps:=as'.toArray++Array.replicate (fn.ntmps-as'.toArray.size) undef,defers:=[] } w:=⟨Nrd z fn,f,hl⟩
 rcases u with ⟨rfl,rfl⟩ | ⟨rfl,rfl⟩
 ·obtain ⟨r,hr,m,v',w',v,h1,⟨fr,rfl,h2,o⟩,p,h5,q,s,t⟩:=Nbf (W:=W) y n x n (Nf _) (ms:=[]) b cs l (.code hc .nilN) (fun _=>rfl) rfl ⟨rfl,rfl,fn,d,j⟩ (fun i h=>by cases h) k;rw [<-a] at h1;exact ⟨.returned v',w',fr,⟨r,hr,v',v,rfl,p,h5,q,s,t⟩,h1,h2,o⟩
 ·cases n with
  | zero=>simp [PK] at l
  | succ n=>
  rw [PK.eq_def] at l;simp only at l;obtain ⟨r,hr,m,v',w',v,h1,⟨fr,rfl,h2,o⟩,p,h5,q,s,t⟩:=Nbf (W:=W) y (n+1) x n (by omega) (ms:=[]) b cs l (.code hc .nilM) (fun _=>rfl) rfl ⟨rfl,rfl,fn,d,j⟩ (fun i h=>by cases h) k;rw [<-a] at h1;exact ⟨.returned v',w',fr,⟨r,hr,v',v,rfl,p,h5,q,s,t⟩,h1,h2,o⟩
theorem ZU:∀(ps:List Nat) (as as':List Value) (fr:Nat->Value) (a:Array Value) (N:Nat),as.length=ps.length->(ps.all (·<N))=true->N<=a.size->OV σ as as'->(∀t,VRel σ (fr t) (a.getD t undef))->
  N<=((ps.zip as').foldl (fun (tmps:Array Value) (x:Nat×Value)=>tmps.setIfInBounds x.1 x.2) a).size/\∀t,VRel σ (Tx fr ps as t) (((ps.zip as').foldl (fun (tmps:Array Value) (x:Nat×Value)=>tmps.setIfInBounds x.1 x.2) a).getD t undef)
 | [],as,as',fr,a,N,h,_,hN,ha,hv=>by
   cases as with
   | nil=>exact ⟨by simpa using hN,by simpa [Tx] using hv⟩
   | cons=>simp at h
 | p::ps,as,as',fr,a,N,h,hp,hN,ha,hv=>by
   cases as with
   | nil=>simp at h
   | cons x xs=>
     cases as' with
     | nil=>have:=ha.1;simp at this
     | cons y ys=>
       simp only [List.all_cons,N2,N6] at hp;simp only [List.zip_cons_cons,O1,Tx];refine ZU ps xs ys _ _ N (by simpa using h) hp.2 (by simpa using hN) ha.tail fun t=>?_
       rw [N8];by_cases e:t=p
       ·subst e;rw [Nl rfl,Array.getElem?_setIfInBounds_self_of_lt (by omega)];exact ha.head
       ·rw [Ng e,Pz (fun h=>e h.symm),<-N8];exact hv t
theorem Nlw (y:EnvOk P E) (n:Nat) (v:∀m,m<n->CallOkS (Prg.mk P (Env.pure E)) (R4 E m)) {i:Nat} (z:NE H i=.loop x) (l:lim<=i) (f:as.length=x.params.length) (g:(x.params.all (·<x.N))=true)
  (A:PK E n ⟨x.N,[],.skip⟩ lim [.code x.assign,.begin i,.code x.body,.round i] (Tx x.fr x.params as) H=some R) (hl:lim<=H.length)
  (d:Inv (Prg.mk P (Env.pure E)) W lim σ H w) (u:OV σ as as') {L:Loc} (hL:σ i=some L) :
  ∃r,w.heap[L.blk]? = some (.loop r)/\as'.toArray.size=r.params.size/\RoundIn Fence.wide 0 P L.blk r.fn (Tz r as'.toArray) r.assign r.body w fun e w'=>∃x∈R,Sj (Prg.mk P (Env.pure E)) W lim σ H x.1 x.2 w e w':=by
 obtain ⟨r,h1,h2⟩:=d.loop z hL;have p:as'.toArray.size=r.params.size:=by
  have e:=u.1;rw [<-Array.length_toList (xs:=r.params),h2.params,List.size_toArray];omega
 refine ⟨r,h1,p,trivial,fun c cs _=>?_⟩;let b:Frame:={ (default:Frame) with fn:=r.fn,kind:=.normal,roundOf:=some L.blk }
 have k:Frame.round L.blk r.fn (Tz r as'.toArray) r.assign r.body .normal=b.atR { tmps:=Tz r as'.toArray,defers:=[] } [.code r.assign,.beginRound,.code r.body]:=by
  simp [Frame.round,Frame.atR,b]
 have o:Tz r as'.toArray=(x.params.zip as').foldl (fun (tmps:Array Value) (x:Nat×Value)=>tmps.setIfInBounds x.1 x.2) r.tmps:=by
  unfold Tz;rw [<-h2.params,<-Array.foldl_toList];simp
 obtain ⟨s,t⟩:=ZU (σ:=σ) x.params as as' x.fr r.tmps x.N f g h2.size u h2.val;rw [<-o] at s t;obtain ⟨D,q,m,v',w',F,k1,⟨c',cs',e1,rfl⟩,k4,B,C,k7,k8⟩:=Nbf (W:=W) y n v n (Nf _) (md:=.r i) (ms:=[]) (ds:=[]) (af:=⟨x.N,[],.skip⟩) (a:={ tmps:=Tz r as'.toArray,defers:=[] }) b (c::cs) A (.code (md:=.r i) h2.assign (.begin (.code (md:=.r i) h2.body .nilR))) (fun h=>by cases h) rfl
  ⟨rfl,L,c,cs,rfl,hL,rfl⟩ (fun j h=>by cases h;exact l) ⟨⟨s,rfl,t⟩,d,hl⟩
 cases e1;rw [<-k] at k1;exact ⟨.returned v',w',⟨D,q,v',F,rfl,k4,B,C,k7,k8⟩,comesIn_wide.2 k1⟩
theorem ZL (hE:EnvOk P E):∀n,CallOkS (Prg.mk P (Env.pure E)) (R4 E n):=by
 intro n
 induction n using Nat.strongRecOn with
 | ind n ih=>
 have hgrow:Ui (R4 E n):=Mf fun af lim k fr H L hk hx hl=>Ni3 E n af lim _ _ _ _ (fun x hx b l e=>absurd e (hk x hx b l)) hx hl
 have inv:∀{mp lim g as H L},R4 E n mp lim (.inl g) as H=some L->
   (∃v,E.orc g as=some v/\L=[(v,H)]/\as.all atom=true/\flat 4 v=true)\/
   (∃r,E.eff g as H=some r/\L=[(r.1,Nrq H r.2)]/\mp=false/\YI lim H r.2.2=true)\/
   (∃af,E.tr g=some af/\((∃v,E.pure g=true/\L=[(v,H)]/\olds H.length 4 v=true/\∃L0,PK E n af H.length [.code af.body] (NG as) H=some L0/\∀r∈L0,r.1=v)\/(mp=false/\PK E n af lim [.code af.body] (NG as) H=some L))):=by
  intro mp lim g as H L h;unfold R4 QV at h;simp only at h;split at h
  ·rename_i u hu;split at h
   ·rename_i hf;cases h;simp only [N2] at hf;exact .inl ⟨u,hu,rfl,hf.1,hf.2⟩
   ·cases h
  split at h
  ·rename_i r hr;split at h
   ·cases h
   ·rename_i hm;cases h;simp only [Bool.or_eq_true,Bool.not_eq_true',not_or,Bool.not_eq_false,Bool.not_eq_true] at hm;exact .inr (.inl ⟨r,hr,rfl,hm⟩)
  ·split at h
   ·cases h
   ·rename_i af haf;right;right;refine ⟨af,haf, ?_⟩;split at h
    ·rename_i hp;split at h
     ·rename_i u H1 l h1;split at h
      ·rename_i hall;split at h
       ·rename_i hf;cases h;refine .inl ⟨u,hp,rfl,hf,_,h1,fun r hr=>?_⟩;rcases Ns.1 hr with rfl | hr
        ·rfl
        ·exact (Ndz _ _ (N7.1 hall r hr)).symm
       ·cases h
      ·cases h
     ·cases h
    ·split at h
     ·cases h
     ·rename_i hmp;exact .inr ⟨by simpa using hmp,h⟩
 have trOk:∀{g af},E.tr g=some af->∃fn,P.funcs[g]? = some fn/\fn.body.isSome=true/\(fn.name == "runtime.NumGoroutine")=false:=by
  intro g af h;obtain ⟨fn,body,md,c,rs,hfn,hb,hc,hrs,hn,_⟩:=XL (hE.tr g af h);exact ⟨fn,hfn,by rw [hb];rfl,hn⟩
 have invR:∀{mp lim i as H L},R4 E n mp lim (.inr i) as H=some L->mp=false/\∃x,NE H i=.loop x/\lim<=i/\as.length=x.params.length/\(x.params.all (·<x.N))=true/\
   PK E n ⟨x.N,[],.skip⟩ lim [.code x.assign,.begin i,.code x.body,.round i] (Tx x.fr x.params as) H=some L:=by
  intro mp lim i as H L h;unfold R4 QV at h;simp only at h;split at h
  ·cases h
  rename_i hmp;split at h
  ·rename_i x hb;split at h
   ·rename_i hc;exact ⟨by simpa using hmp,x,hb,hc.1,hc.2.1,hc.2.2,h⟩
   ·cases h
  ·cases h
 refine { pure:=?_,fn:=?_,calls:=?_,rounds:=?_,grow:=hgrow }
 ·intro mp lim g as H L h;rcases inv h with ⟨v,e,_⟩ | ⟨r,e,_⟩ | ⟨af,e,_⟩
  ·exact hE.orcFn _ _ _ e
  ·exact hE.effFn _ _ _ _ e
  ·exact trOk e
 ·intro mp lim g as H L h hl W σ w as' hinv ha;rcases inv h with ⟨v,e,rfl,hat,hfl⟩ | ⟨r,e,rfl,_,hu⟩ | ⟨af,e,⟨v,hp,rfl,hfl,L0,hx,hall⟩ | ⟨_,hx⟩⟩
  case inr.inl=>exact (hE.eff _ _ _ _ e lim hl hu W σ w as' hinv ha).mono fun en w' hp=>⟨_,Nq.2 rfl,hp⟩
  ·have heq:as'=as:=by
    apply Pr ha.1.symm;intro i h1 h2;exact (ha.2 i _ _ (Ni h2) (Ni h1)).eq_of_atom (N7.1 hat _ (by simp))
   subst heq;refine (hE.orc _ _ _ e w).mono fun en w' hp=>?_
   obtain ⟨rfl,hb⟩:=hp;obtain ⟨hb,hdr⟩:=hb;refine ⟨_,Nq.2 rfl,v,σ,rfl, ?_,hinv.world hb.size (fun k hk=>hb.block k hk),⟨hb.os,hb.tape,⟨hb.output,hdr⟩,hb.size,fun k hk=>hb.block k ?_⟩,PO.le_refl _,fun j hj=>absurd rfl hj⟩
   ·exact hE.orcFlat _ _ _ e σ
   ·rcases Od k w.heap.size with h | h
    ·exact h
    ·exact absurd (hinv.fresh k h) hk
  ·have hinv':Inv (Prg.mk P (Env.pure E)) (fun k=>w.heap.size<=k) H.length σ H w:=⟨hinv.blk,hinv.inj,fun i b L hb ho hli hL=>by
    have:=(List.getElem?_eq_some_iff.1 hb).1;omega,fun b hb=>hb,hinv.dom⟩
   refine (Nf4 hE n ih (hE.tr _ _ e) hx (Nf _) hinv' ha).mono fun en w' hp=>?_
   obtain ⟨r,hr,v',σ',rfl,h1,h2,h3,h4,h5⟩:=hp;rw [hall r hr] at h1;have hsm:∀k,k<w.heap.size->w'.heap[k]? = w.heap[k]?:=fun k hk=>h3.block k (by omega)
   refine ⟨_,Nq.2 rfl,v',σ,rfl,h1.olds (fun i L hi hL=>by rw [<-hL];exact (Om fun e=>by have:=h5 i (Ne.symm e);omega:σ i=σ' i)) 4 hfl,hinv.world h3.size hsm,⟨h3.os,h3.tape,h3.output,h3.size,fun k hk=>hsm k ?_⟩,PO.le_refl _,fun j hj=>absurd rfl hj⟩;rcases Od k w.heap.size with h | h
   ·exact h
   ·exact absurd (hinv.fresh k h) hk
  ·exact Nf4 hE n ih (hE.tr _ _ e) hx hl hinv ha
 ·intro mp lim i as H L h hl W σ w as' L0 hinv ha hL;obtain ⟨_,x,hb,h1,h2,h3,h4⟩:=invR h;exact Nlw hE n ih hb h1 h2 h3 h4 hl hinv ha hL
 ·intro lim g as H L h r hr;cases g with
  | inr i=>obtain ⟨e,_⟩:=invR h;cases e
  | inl g=>
  rcases inv h with ⟨v,_,e,_⟩ | ⟨_,_,_,e,_⟩ | ⟨af,_,⟨v,_,e,_⟩ | ⟨e,_⟩⟩
  ·subst e;rw [Nq] at hr;subst hr;rfl
  ·cases e
  ·subst e;rw [Nq] at hr;subst hr;rfl
  ·cases e
theorem Inv.nil (w:World):Inv (Prg.mk P (Env.pure E)) (fun k=>w.heap.size<=k) 0 (fun _=>none) [] w:=
 ⟨fun i b a=>by simp at a,fun i j bi bj Li Lj a=>by simp at a,fun i b L a=>by simp at a,fun b a=>a,fun _ _=>rfl⟩
end
end Go.AM



namespace Go.AM
universe u
variable {r r':Option (List Value)} {ρ:Operand->Value} {H:NA} {c:List Value} {v:Value} {R:Value->NA->Prop} {run:AFunc->Nat->List AItem->(Nat->Value)->NA->Option (List (Value×NA))} {dt:Bool}
namespace Sym
abbrev t (n:Nat):Operand:=.tmp n
abbrev k (v:Value):Operand:=.const v
abbrev i (d:Nat) (o:AOp):AIns:=⟨some d,none,o,none,[]⟩
abbrev zT (n:Int):Operand:=k (.int .i64 n)
abbrev mT (a b:Nat):AIns:=i a (.mov (t b))
abbrev lT (a b:Nat):AIns:=i a (.load1 (t b))
abbrev fT (a n b:Nat):AIns:=i a (.fieldAddr n (t b))
abbrev xT (a e b c:Nat):AIns:=i a (.idxAddrS e (t b) (t c))
abbrev St (n a b:Nat):AIns:=⟨none,none,.store n (t a) (t b),none,[]⟩
abbrev Bt (d:Nat) (o:BinOp) (a b:Nat):AIns:=i d (.bin o (t a) (t b))
abbrev Bc (d:Nat) (o:BinOp) (a:Nat) (c:Int):AIns:=i d (.bin o (t a) (zT c))
abbrev Ce (a b:Nat):ACode:=.cond (t a) .skip (.exit b)
abbrev Nt (d a:Nat):AIns:=i d (.lenSlice (t a))
abbrev Gt (d n a:Nat):AIns:=i d (.loadN n (t a))
abbrev Et (d n a:Nat):AIns:=i d (.extract n (t a))
abbrev Ct (d f:Nat) (l:List Operand):AIns:=i d (.call .any (.func f) l)
abbrev Yp (d g:Nat) (o:AOp):AIns:=⟨some d,some (g,true),o,none,[]⟩
abbrev Yq (d g:Nat) (o:AOp):AIns:=⟨some d,some (g,false),o,none,[]⟩
abbrev Pl (d g a:Nat):AIns:=Yp d g (.load1 (t a))
abbrev Ql (d g a:Nat):AIns:=Yq d g (.load1 (t a))
abbrev Pm (d g a:Nat):AIns:=Yp d g (.mov (t a))
abbrev Qm (d g a:Nat):AIns:=Yq d g (.mov (t a))
abbrev Pf (d g n a:Nat):AIns:=Yp d g (.fieldAddr n (t a))
abbrev Qf (d g n a:Nat):AIns:=Yq d g (.fieldAddr n (t a))
abbrev Px (d g e a b:Nat):AIns:=Yp d g (.idxAddrS e (t a) (t b))
abbrev Qx (d g e a b:Nat):AIns:=Yq d g (.idxAddrS e (t a) (t b))
abbrev Pb (d g:Nat) (o:BinOp) (a b:Nat):AIns:=Yp d g (.bin o (t a) (t b))
abbrev Qb (d g:Nat) (o:BinOp) (a b:Nat):AIns:=Yq d g (.bin o (t a) (t b))
abbrev Zm (d:Nat) (c:Int):AIns:=i d (.mov (zT c))
abbrev At (d a b:Nat):AIns:=i d (.pick (t a) (t b) (k (.bool false)))
abbrev Ot (d a b:Nat):AIns:=i d (.pick (t a) (k (.bool true)) (t b))
abbrev Ut (d a:Nat):AIns:=i d (.un .not (t a))
abbrev Kt (d:Nat) (o:AOp) (m:List Nat):AIns:=⟨some d,none,o,none,m⟩
abbrev Wt (d:Nat) (o:AOp) (n:Nat):AIns:=⟨some d,none,o,some n,[]⟩
abbrev Oz (l:List AIns) (c:ACode):ACode:=.seq (.ops l) c
abbrev Ds (n:Nat) (l:List AIns) (c:ACode):ACode:=.seq (.drawn n l) c
abbrev Bl (n:Nat) (c:ACode):ACode:=.block n (.loop c)
abbrev Vi (n:Int):Value:=.int .i64 n
abbrev Vp (b:Nat):Value:=.pointer (some ⟨b,0,none⟩)
abbrev Sa (b:Nat):Option Addr:=some ⟨b,0,none⟩
abbrev Vz:Value:=.slice none 0 0
abbrev Vc (c:List Value):Blk:=.cells false c
end Sym
structure Bx {α:Sort u} (a:α):Type where
def Na2 (dt:Bool) (L:List (Value×NA)) (R:Value->NA->Prop):Prop:=(dt=true->∃x,L=[x])/\∀r∈L,R r.1 r.2
theorem Na2.mono {L:List (Value×NA)} {R':Value->NA->Prop} (h:Na2 dt L R) (hr:∀v H,R v H->R' v H):Na2 dt L R':=⟨h.1,fun r a=>hr _ _ (h.2 r a)⟩
theorem VF:Na2 dt [(v,H)] R=R v H:=propext ⟨fun h=>h.2 (v,H) (by simp),fun h=>⟨fun _=>⟨_,rfl⟩,fun r hr=>by rw [Nq] at hr;subst hr;exact h⟩⟩
theorem UC {r:Value×NA}:Na2 dt [r] R=R r.1 r.2:=VF
def PT (E:Env) (af:AFunc) (lim:Nat) (k:List AItem) (fr:Nat->Value) (H:NA) (R:Value->NA->Prop) (_:Bx k:=⟨⟩) (_:Bx R:=⟨⟩):Prop:=
 ∃n L,PK E n af lim k fr H=some L/\Na2 E.dt L R
def WV (E:Env) (mp:Bool) (lim:Nat) (t:FuncId ⊕ Nat) (as:List Value) (H:NA) (R:Value->NA->Prop) (_:Bx R:=⟨⟩):Prop:=
 ∃n L,R4 E n mp lim t as H=some L/\Na2 E.dt L R
def NQ (E:Env) (mp:Bool) (lim:Nat) (g:FuncId) (as:List Value) (H:NA) (R:Value->NA->Prop) (_:Bx R:=⟨⟩):Prop:=
 ∃n L,R4 E n mp lim (.inl g) as H=some L/\Na2 E.dt L R
def YB (E:Env) (mp:Bool) (lim:Nat) (i:Nat) (as:List Value) (H:NA) (R:Value->NA->Prop) (_:Bx R:=⟨⟩):Prop:=
 ∃n L,R4 E n mp lim (.inr i) as H=some L/\Na2 E.dt L R
def dT (E:Env):Env:={ E with dt:=true }
class DT (E:Env) (E':outParam Env):Prop where
 eq:dT E=E'
def RQ (r:Option (Value×NA)) (f:Value->NA->Prop) (_:Bx f:=⟨⟩):Prop:=match r with | some (v,H')=>f v H' | none=>False
def nxK (dt:Bool) (r:Option (List (Value×NA))) (f:Value->NA->Prop) (_:Bx f:=⟨⟩):Prop:=match r with | some L=>Na2 dt L f | none=>False
def Nfz (v:Value) (p q:Prop) (_:Bx p:=⟨⟩) (_:Bx q:=⟨⟩):Prop:=match v with | .bool true=>p | .bool false=>q | _=>False
def Uq (v:Value) (b:Bool) (p q:Prop) (_:Bx p:=⟨⟩) (_:Bx q:=⟨⟩):Prop:=match v with | .bool c=>if c=b then p else q | _=>q
theorem Nc4 {E:Env}:QV (dT E) run=QV E run:=rfl
theorem Ntm (E:Env):∀n,PK (dT E) n=PK E n
 | 0=>by funext af lim k fr H;simp [PK]
 | n+1=>by
   have ih:=Ntm E n;funext af lim k fr H;rw [PK.eq_def,PK.eq_def E];simp only [ih,Nc4]
theorem Na1 (E:Env) (n:Nat):R4 (dT E) n=R4 E n:=by unfold R4;rw [Ntm,Nc4]
section
variable {E:Env} {af:AFunc} {lim:Nat} {K:List AItem} {fr:Nat->Value} {H:NA} {R:Value->NA->Prop}
variable {x:AIns} {b n:Nat} {r:Value×List (List Value)×Option (Nat×List Value)} {g:FuncId} {ρ:Operand->Value} {as:List Value} {L:List ((Nat->Value)×NA)} {v:Value} {mp:Bool} {C:Tw} {l:List AIns}
theorem NQ.weak {E':Env} [h:DT E E'] (hc:NQ E' mp lim g as H R):NQ E mp lim g as H R:=by
 obtain ⟨n,L,h1,h2⟩:=hc;obtain rfl:=h.eq;rw [Na1] at h1;exact ⟨n,L,h1,fun _=>h2.1 rfl,h2.2⟩
theorem PT.succ {k k1:List AItem} {fr fr1:Nat->Value} {H H1:NA} (h:∀n,PK E (n+1) af lim k fr H=PK E n af lim k1 fr1 H1):PT E af lim k fr H R=PT E af lim k1 fr1 H1 R:=by
 apply propext;constructor
 ·rintro ⟨n,L,a,hr⟩;cases n with
  | zero=>simp [PK] at a
  | succ n=>rw [h] at a;exact ⟨n,L,a,hr⟩
 ·rintro ⟨n,L,a,hr⟩;exact ⟨n+1,L,by rw [h];exact a,hr⟩
theorem Te {k:List AItem} {r:Option (Value×NA)} (h:∀n,PK E (n+1) af lim k fr H=one r):PT E af lim k fr H R=RQ r R:=by
 apply propext;constructor
 ·rintro ⟨n,L,a,hr⟩;cases n with
  | zero=>simp [PK] at a
  | succ n=>
    rw [h] at a;obtain ⟨x,rfl,rfl⟩:=V9 a;rw [UC] at hr;exact hr
 ·intro hk;cases a:r with
  | none=>rw [a] at hk;exact hk.elim
  | some p=>rw [a] at hk;exact ⟨1,[p],by rw [h,a];rfl,by rw [UC];exact hk⟩
theorem Nto {k:List AItem} (h:∀n,PK E (n+1) af lim k fr H=one ((result fr H af.results).map (·,H))):PT E af lim k fr H R=RQ ((result fr H af.results).map (·,H)) R:=Te h
theorem N7h {a b}:PT E af lim (.code (.seq a b)::K) fr H R=PT E af lim (.code a::.code b::K) fr H R:=PT.succ fun n=>by rw [PK.eq_def]
theorem N4f:PT E af lim (.code .skip::K) fr H R=PT E af lim K fr H R:=PT.succ fun n=>by rw [PK.eq_def]
theorem N4h {l}:PT E af lim (.code (.ops l)::K) fr H R=PT E af lim (.ops none l::K) fr H R:=PT.succ fun n=>by rw [PK.eq_def]
theorem Nxk {m l}:PT E af lim (.code (.drawn m l)::K) fr H R=PT E af lim (.ops (some H.length) l::K) fr (H++List.replicate m .dead) R:=PT.succ fun n=>by rw [PK.eq_def]
theorem N7i:PT E af lim (.code .ret::K) fr H R=RQ ((result fr H af.results).map (·,H)) R:=Nto fun n=>by rw [PK.eq_def]
theorem N7j:PT E af lim [] fr H R=RQ ((result fr H af.results).map (·,H)) R:=Nto fun n=>by rw [PK.eq_def]
theorem Nxn {id b}:PT E af lim (.code (.block id b)::K) fr H R=PT E af lim (.code b::.inBlock id::K) fr H R:=PT.succ fun n=>by rw [PK.eq_def]
theorem Noy {id}:PT E af lim (.inBlock id::K) fr H R=PT E af lim K fr H R:=PT.succ fun n=>by rw [PK.eq_def]
theorem Nox {b}:PT E af lim (.code (.loop b)::K) fr H R=PT E af lim (.code b::.inLoop b::K) fr H R:=PT.succ fun n=>by rw [PK.eq_def]
theorem Y0 {b}:PT E af lim (.inLoop b::K) fr H R=PT E af lim (.code b::.inLoop b::K) fr H R:=PT.succ fun n=>by rw [PK.eq_def]
theorem Nou {b}:PT E af lim (.ops b []::K) fr H R=PT E af lim K fr H R:=PT.succ fun n=>by rw [PK.eq_def]
theorem Ngq {id K'} (h:RI id K=some K'):PT E af lim (.code (.exit id)::K) fr H R=PT E af lim K' fr H R:=PT.succ fun n=>by rw [PK.eq_def];simp only [h]
theorem N4i {c a b}:PT E af lim (.code (.cond c a b)::K) fr H R=Nfz (ev fr c) (PT E af lim (.code a::K) fr H R) (PT E af lim (.code b::K) fr H R):=by
 cases hc:ev fr c with
 | bool t=>cases t<;>exact PT.succ fun n=>by rw [PK.eq_def];simp only [hc]
 | _=>
   apply propext;constructor
   ·rintro ⟨n,L,d,hr⟩;cases n with
    | zero=>simp [PK] at d
    | succ n=>rw [PK.eq_def] at d;simp only [hc] at d;cases d
   ·intro h;exact h.elim
theorem PT.det {k:List AItem} {m:Nat} {r r':List (Value×NA)} (h:PK E n af lim k fr H=some r) (h':PK E m af lim k fr H=some r'):r=r':=by
 have h1:=Wd E (Qd n m) h;have h2:=Wd E (Pu n m) h';rw [h1] at h2;exact Option.some.inj h2
def Nbu:AOp->Bool
 | .call ..=>true
 | _=>false
def dOk (N:Nat):Option Nat->Bool
 | none=>true
 | some d=>decide (d<N)
def Nur (d:Option Nat) (fr:Nat->Value) (v:Value):Nat->Value:=match d with | none=>fr | some d=>upd fr d v
def gK (N:Nat) (fr:Nat->Value) (g:Option (Nat×Bool)) (p q:Prop) (_:Bx p:=⟨⟩) (_:Bx q:=⟨⟩):Prop:=match RO N fr g with | none=>False | some true=>p | some false=>q
def oK (E:Env) (lim:Nat) (base:Option Nat) (dest:Option Nat) (mask:List Nat) (o:AOp) (fr:Nat->Value) (H:NA) (Q:Value->NA->Prop) (_:Bx Q:=⟨⟩):Prop:=
 match base with
 | none=>∃n L,stepX (R4 E n) lim ⟨none,none,o,dest,mask⟩ (ev fr) H=some L/\Na2 E.dt L Q
 | some b=>∃n v H',R6 (det (R4 E n)) lim (dest.map (b+·)) o (ev fr) (OI b mask H)=some (v,H')/\Q v (OE b mask H H')
theorem MZ {N:Nat} {d:Option Nat} (h:dOk N d=true) (v:Value):YP N fr d v=some (Nur d fr v):=by
 cases d with
 | none=>rfl
 | some d=>simp [dOk] at h;simp [YP,Nur,h]
theorem N7k {k:List AItem} (h:∀r∈L,PT E af lim k r.1 r.2 R):∃N,∀r∈L,∃s,PK E N af lim k r.1 r.2=some s/\Na2 E.dt s R:=by
 induction L with
 | nil=>exact ⟨0,fun r hr=>by cases hr⟩
 | cons x L ih=>
   obtain ⟨N,hN⟩:=ih fun r hr=>h r (by simp [hr])
   obtain ⟨n,s,h1,h2⟩:=h x (by simp);refine ⟨max N n,fun r hr=>?_⟩;rcases Ns.1 hr with rfl | hr
   ·exact ⟨s,Wd E (Pu N n) h1,h2⟩
   ·obtain ⟨c,a,b⟩:=hN r hr;exact ⟨c,Wd E (Qd N n) a,b⟩
theorem ZM {α β:Type} {f:α->Option (List β)} {l:List α} {r:List β} (h:Uj f l=some r) (e:∀x∈l,∀s,f x=some s->s≠[]) {y:β} (hr:r=[y]):∃x,l=[x]:=by
 cases l with
 | nil=>simp [Uj] at h;rw [<-h] at hr;cases hr
 | cons a l=>
   cases l with
   | nil=>exact ⟨a,rfl⟩
   | cons b l=>
     simp only [Uj] at h;split at h
     ·rename_i s t hs d;split at d
      ·rename_i g j c i;cases d;cases h;have h1:=e a (by simp) s hs;have h2:=e b (by simp) g c;cases s with
       | nil=>exact absurd rfl h1
       | cons _ s=>
         cases g with
         | nil=>exact absurd rfl h2
         | cons _ _=>simp at hr
      ·cases d
     ·cases h
theorem Nxl:PT E af lim (.ops none (x::l)::K) fr H R=∃n L,M5 (R4 E n) af.ntmps lim x fr H=some L/\(E.dt=true->∃y,L=[y])/\∀r∈L,PT E af lim (.ops none l::K) r.1 r.2 R:=by
 apply propext;constructor
 ·rintro ⟨n,L,a,hr⟩;cases n with
  | zero=>simp [PK] at a
  | succ n=>
    rw [PK.eq_def] at a;simp only at a;split at a
    ·rename_i L0 h1;refine ⟨n,L0,h1,fun hd=>?_,fun r b=>?_⟩
     ·obtain ⟨y,h⟩:=hr.1 hd;exact ZM a (fun x _ s hs=>ZN E _ _ _ _ _ _ _ hs) h
     ·obtain ⟨s,hs,g⟩:=Vv a r b;refine ⟨n,s,hs,fun hd=>?_,fun q i=>hr.2 q (g q i)⟩;obtain ⟨y,h⟩:=hr.1 hd;obtain ⟨z,k⟩:=ZM a (fun x _ s hs=>ZN E _ _ _ _ _ _ _ hs) h;subst k;rw [Nq] at b;subst b;simp only [Uj,hs,Option.some.injEq,Na] at a;exact ⟨y,a.trans h⟩
    ·cases a
 ·rintro ⟨n,L0,h1,hd,h2⟩;obtain ⟨N,hN⟩:=N7k h2;have e:M5 (QV E (PK E (max n N))) af.ntmps lim x fr H=some L0:=Nbv (UU E (Qd n N)) h1;obtain ⟨L,hL⟩:=Yu (f:=fun r:(Nat->Value)×NA=>PK E (max n N) af lim (.ops none l::K) r.1 r.2) (l:=L0) fun r hr=>by
   obtain ⟨s,hs,_⟩:=hN r hr;exact ⟨s,Wd E (Pu n N) hs⟩
  refine ⟨max n N+1,L,by rw [PK.eq_def];simp only [e,hL],fun d=>?_,fun q i=>?_⟩
  ·obtain ⟨y,rfl⟩:=hd d;obtain ⟨s,hs,ho⟩:=hN y (by simp);have c:=Wd E (Pu n N) hs;simp only [Uj,c,Option.some.injEq,Na] at hL;obtain ⟨z,k⟩:=ho.1 d;exact ⟨z,by rw [<-hL,k]⟩
  ·obtain ⟨r,hr,s,hs,j⟩:=Vw hL q i;obtain ⟨m,c,ho⟩:=hN r hr;have:=PT.det hs c;subst this;exact ho.2 q j
theorem Nxm:PT E af lim (.ops (some b) (x::l)::K) fr H R=∃n,∃fr' H',TW (det (R4 E n)) af.ntmps lim (some b) x fr H=some (fr',H')/\PT E af lim (.ops (some b) l::K) fr' H' R:=by
 apply propext;constructor
 ·rintro ⟨n,L,a,hr⟩;cases n with
  | zero=>simp [PK] at a
  | succ n=>
    rw [PK.eq_def] at a;simp only at a;split at a
    ·rename_i fr' H1 h1;exact ⟨n,fr',H1,h1,n,L,a,hr⟩
    ·cases a
 ·rintro ⟨n,fr',H1,h1,m,L,a,hr⟩;refine ⟨max n m+1,L, ?_,hr⟩;rw [PK.eq_def];simp only;have e:TW (det (QV E (PK E (max n m)))) af.ntmps lim (some b) x fr H=some (fr',H1):=M6 (UU E (Qd n m)).det h1;rw [e];exact Wd E (Pu n m) a
theorem N9e {base d g o dest mask l} (hd:dOk af.ntmps d=true):PT E af lim (.ops base (⟨d,g,o,dest,mask⟩::l)::K) fr H R =
  gK af.ntmps fr g (oK E lim base dest mask o fr H fun v H'=>PT E af lim (.ops base l::K) (Nur d fr v) H' R) (PT E af lim (.ops base l::K) (Nur d fr undef) H R):=by
 cases base with
 | none=>
   rw [Nxl];unfold gK M5;simp only;cases hw:RO af.ntmps fr g with
   | none=>simp
   | some t=>
     cases t with
     | false=>
       simp only [MZ hd,Ny,Option.some.injEq];apply propext;constructor
       ·rintro ⟨n,L,rfl,_,h⟩;exact h _ (Nq.2 rfl)
       ·intro h;exact ⟨0,_,rfl,fun _=>⟨_,rfl⟩,fun r hr=>by rw [Nq] at hr;subst hr;exact h⟩
     | true=>
       simp only [oK];have i:∀n,stepX (R4 E n) lim ⟨d,g,o,dest,mask⟩ (ev fr) H=stepX (R4 E n) lim ⟨none,none,o,dest,mask⟩ (ev fr) H:=fun n=>rfl
       have hm:∀L:List (Value×NA),YX (fun r:Value×NA=>(YP af.ntmps fr d r.1).map (·,r.2)) L=some (L.map fun r=>(Nur d fr r.1,r.2)):=fun L=>by
        induction L with
        | nil=>rfl
        | cons x L ih=>rw [YX,ih,MZ hd];rfl
       simp only [i];apply propext;constructor
       ·rintro ⟨n,L,h1,c,h2⟩;split at h1
        ·rename_i L0 h5;rw [hm] at h1;cases h1;refine ⟨n,L0,h5,fun he=>?_,fun r hr=>h2 _ (List.mem_map.2 ⟨r,hr,rfl⟩)⟩;obtain ⟨y,j⟩:=c he;cases L0 with
         | nil=>cases j
         | cons a L0=>
           cases L0 with
           | nil=>exact ⟨a,rfl⟩
           | cons b L0=>simp at j
        ·cases h1
       ·rintro ⟨n,L0,h1,c,h2⟩;refine ⟨n,L0.map fun r=>(Nur d fr r.1,r.2),by rw [h1];exact hm L0,fun he=>?_,fun r hr=>?_⟩
        ·obtain ⟨y,rfl⟩:=c he;exact ⟨_,rfl⟩
        ·obtain ⟨q,s,rfl⟩:=List.mem_map.1 hr;exact h2 q s
 | some b=>
   rw [Nxm];unfold gK TW Tc;simp only;cases hw:RO af.ntmps fr g with
   | none=>simp
   | some t=>
     cases t with
     | false=>
       simp only [Nd,Prod.mk.injEq,MZ hd];apply propext;constructor
       ·rintro ⟨n,fr',H',⟨f,h1,h2,m⟩,e⟩;cases h1;subst h2 m;exact e
       ·intro h;exact ⟨0,_,_,⟨_,rfl,rfl,rfl⟩,h⟩
     | true=>
       simp only [oK];apply propext;constructor
       ·rintro ⟨n,fr',H',h1,e⟩;split at h1
        ·rename_i v H1 h5;split at h5
         ·rename_i v' k p;cases h5;rw [MZ hd] at h1;simp only [Ny,Option.some.injEq,Prod.mk.injEq] at h1;obtain ⟨rfl,rfl⟩:=h1;exact ⟨n,v,k,p,e⟩
         ·cases h5
        ·cases h1
       ·rintro ⟨n,v,H',h1,e⟩;refine ⟨n,_,_, ?_,e⟩;rw [h1];simp only [MZ hd,Ny]
theorem N6m {N:Nat} {p q:Prop}:gK N fr none p q=p:=rfl
theorem N6l {N g:Nat} {b:Bool} {p q:Prop} (h:g<N):gK N fr (some (g,b)) p q=Uq (fr g) b p q:=by
 unfold gK RO Uq;simp only [h,if_true];cases fr g<;>simp;rename_i c;cases c<;>cases b<;>simp
variable {base dest:Option Nat} {mask:List Nat} {o:AOp} {Q:Value->NA->Prop}
theorem Nt5 {C:Ul} (h:Nbu o=false):R6 C lim dest o ρ H=NL lim dest o ρ H:=by
 cases o<;>first | rfl | (simp [Nbu] at h)
theorem Nyn (h:Nbu o=false):stepX C lim ⟨none,none,o,none,mask⟩ ρ H=(NL lim none o ρ H).map fun r=>[r]:=by
 unfold stepX;cases o<;>first | rfl | (simp [Nbu] at h)
theorem PN (h:Nbu o=false):oK E lim none none mask o fr H Q=RQ (NL lim none o (ev fr) H) Q:=by
 unfold oK RQ;simp only [Nyn h];cases NL lim none o (ev fr) H with
 | none=>simp
 | some p=>exact propext ⟨by rintro ⟨_,_,h,q⟩;cases h;rw [UC] at q;exact q,fun q=>⟨0,_,rfl,by rw [UC];exact q⟩⟩
theorem PE (h:Nbu o=false):oK E lim (some b) dest mask o fr H Q=RQ (NL lim (dest.map (b+·)) o (ev fr) (OI b mask H)) fun v H'=>Q v (OE b mask H H'):=by
 unfold oK RQ;simp only [Nt5 h];cases NL lim (dest.map (b+·)) o (ev fr) (OI b mask H) with
 | none=>simp
 | some p=>exact propext ⟨by rintro ⟨_,_,_,h,q⟩;cases h;exact q,fun q=>⟨0,_,_,rfl,q⟩⟩
theorem Nz0 {x:Operand}:oK E lim none (some 1) mask (.mov x) fr H Q=RQ (UB (ev fr x) H) Q:=by
 unfold oK RQ stepX Nd5;simp only;cases UB (ev fr x) H with
 | none=>simp
 | some p=>exact propext ⟨by rintro ⟨_,_,h,q⟩;cases h;rw [UC] at q;exact q,fun q=>⟨0,_,rfl,by rw [UC];exact q⟩⟩
theorem N5w {x:Operand}:oK E lim none (some 2) mask (.mov x) fr H Q=nxK E.dt (Mh lim (ev fr x) H) Q:=by
 unfold oK nxK stepX Nd5;simp only;cases Mh lim (ev fr x) H with
 | none=>simp
 | some L=>exact propext ⟨by rintro ⟨_,_,h,q⟩;cases h;exact q,fun q=>⟨0,_,rfl,q⟩⟩
theorem Nz2 {x:Operand}:oK E lim none (some 3) mask (.mov x) fr H Q=RQ (Zp (ev fr x) H) Q:=by
 unfold oK RQ stepX Nd5;simp only;cases Zp (ev fr x) H with
 | none=>simp
 | some p=>exact propext ⟨by rintro ⟨_,_,h,q⟩;cases h;rw [UC] at q;exact q,fun q=>⟨0,_,rfl,by rw [UC];exact q⟩⟩
def Nko (c:Option ((FuncId ⊕ Nat)×List Value)) (f:FuncId ⊕ Nat->List Value->Prop) (_:Bx f:=⟨⟩):Prop:=match c with | some (g,as)=>f g as | none=>False
theorem Nb8 {mp:Bool} {g:FuncId} {as:List Value}:WV E mp lim (.inl g) as H Q=NQ E mp lim g as H Q:=rfl
theorem Nxr {mp:Bool} {i:Nat} {as:List Value}:WV E mp lim (.inr i) as H Q=YB E mp lim i as H Q:=rfl
theorem Nwy {g:FuncId ⊕ Nat} {as:List Value} {f:FuncId ⊕ Nat->List Value->Prop}:Nko (some (g,as)) f=f g as:=rfl
theorem Nl2:CM.any.isPure=false:=id rfl
theorem Nus:CM.pure.isPure=true:=id rfl
theorem N5c:CM.mk.isPure=false:=id rfl
def CM.free:CM->Bool
 | .maps | .recs=>false
 | _=>true
theorem N18:CM.free .any=true:=id rfl
theorem Nv9:CM.free .pure=true:=id rfl
theorem N6n:CM.free .mk=true:=id rfl
theorem Nqt {H:NA} {p:Addr}:loadX none H p=loadCell H p:=id rfl
theorem Nqs {H:NA} {p:Addr} {k:Nat}:loadX (some k) H p=(loadCells H p k).map fun c=>.agg c.toArray:=id rfl
theorem Nq7 {ro:Bool} {p:Option Addr} {l:List Value}:TT (.cells ro (.pointer p::l))=true:=id rfl
theorem Nkb {ro:Bool} {p:Option Addr} {n c:Nat} {l:List Value}:TT (.cells ro (.slice p n c::l))=true:=id rfl
theorem Nq8 {ro:Bool} {k:IntKind} {n:Int} {l:List Value}:TT (.cells ro (.int k n::l))=TT (.cells ro l):=id rfl
theorem N55 {H:NA}:CM.any.lim lim H=lim:=id rfl
theorem N0j {H:NA}:CM.pure.lim lim H=lim:=id rfl
theorem Oae {H:NA}:CM.mk.lim lim H=H.length:=id rfl
theorem Ne6 {mp:CM} (hm:mp.free=true) {H:NA}:∀L:List (Value×NA),YX (fun r=>VM mp H (some r)) L=some L
 | []=>rfl
 | x::L=>by
   have e:VM mp H (some x)=some x:=by cases mp<;>first | rfl | cases hm
   simp only [YX,e,Ne6 hm L]
theorem N5x {mp:CM} {f:Operand} {args:List Operand} (hm:mp.free=true):oK E lim none none mask (.call mp f args) fr H Q=Nko (NF (ev fr f) (args.map (ev fr))) fun g as=>WV E mp.isPure (mp.lim lim H) g as H Q:=by
 unfold oK Nko WV;simp only [stepX,YL];cases NF (ev fr f) (args.map (ev fr)) with
 | none=>simp
 | some p=>
   obtain ⟨g,as⟩:=p;simp only;apply propext;constructor
   ·rintro ⟨n,L,h,q⟩;split at h
    ·rename_i L0 a;rw [Ne6 hm] at h;cases h;exact ⟨n,L,a,q⟩
    ·cases h
   ·rintro ⟨n,L,h,q⟩;exact ⟨n,L,by rw [h];exact Ne6 hm L,q⟩
theorem Nas {t:FuncId ⊕ Nat} {p:Value×NA}:det C mp lim t as H=some p↔C mp lim t as H=some [p]:=by
 unfold det;constructor
 ·exact fun h=>SN h
 ·intro h;rw [h];rfl
theorem Nz3 {E':Env} [hE:DT E E'] {b:Nat} {mp:CM} {f:Operand} {args:List Operand} (hm:mp.free=true):oK E lim (some b) dest mask (.call mp f args) fr H Q=Nko (NF (ev fr f) (args.map (ev fr))) fun g as=>WV E' mp.isPure (mp.lim lim (OI b mask H)) g as (OI b mask H) fun v H'=>Q v (OE b mask H H'):=by
 obtain rfl:=hE.eq;unfold oK Nko R6 WV;simp only;cases NF (ev fr f) (args.map (ev fr)) with
 | none=>simp
 | some p=>
   obtain ⟨g,as⟩:=p;have e:∀r,VM mp (OI b mask H) r=r:=fun r=>by cases mp<;>first | rfl | cases hm
   simp only [e,Nas,Na1];apply propext;constructor
   ·rintro ⟨n,v,H',h,q⟩;exact ⟨n,_,h,by rw [VF];exact q⟩
   ·rintro ⟨n,L,h,q⟩;obtain ⟨⟨v,H'⟩,rfl⟩:=q.1 rfl;rw [VF] at q;exact ⟨n,v,H',h,q⟩
theorem Nz1 {E':Env} [hE:DT E E'] {b:Nat} {f:Operand} {args:List Operand}:oK E lim (some b) dest mask (.call .maps f args) fr H Q=Nko (NF (ev fr f) (args.map (ev fr))) fun g as=>WV E' false lim g as (OI b mask H) fun v H'=>Wn (OI b mask H) H'=true/\Q v (OE b mask H H'):=by
 obtain rfl:=hE.eq;unfold oK Nko WV;simp only [R6];cases NF (ev fr f) (args.map (ev fr)) with
 | none=>simp
 | some p=>
   obtain ⟨g,as⟩:=p;simp only [Na1];apply propext;constructor
   ·rintro ⟨n,v,H',h,q⟩;obtain ⟨h1,h2⟩:=Td h;exact ⟨n,_,Nas.1 h1,by rw [VF];exact ⟨h2 rfl,q⟩⟩
   ·rintro ⟨n,L,h1,q⟩;obtain ⟨⟨v,H'⟩,rfl⟩:=q.1 rfl;rw [VF] at q;obtain ⟨h2,q⟩:=q;refine ⟨n,v,H', ?_,q⟩;show VM .maps (OI b mask H) (det (R4 E n) false lim g as (OI b mask H))=some (v,H');rw [Nas.2 h1];simp only [VM,Nl h2]
theorem Nzz {E':Env} [hE:DT E E'] {b:Nat} {f:Operand} {args:List Operand}:oK E lim (some b) dest mask (.call .recs f args) fr H Q=Nko (NF (ev fr f) (args.map (ev fr))) fun g as=>WV E' false lim g as (OI b mask H) fun v H'=>Xr (OI b mask H) H'=true/\Q v (OE b mask H H'):=by
 obtain rfl:=hE.eq;unfold oK Nko WV;simp only [R6];cases NF (ev fr f) (args.map (ev fr)) with
 | none=>simp
 | some p=>
   obtain ⟨g,as⟩:=p;simp only [Na1];apply propext;constructor
   ·rintro ⟨n,v,H',h,q⟩;have h2:=Nb2 h;exact ⟨n,_,Nas.1 (Td h).1,by rw [VF];exact ⟨h2,q⟩⟩
   ·rintro ⟨n,L,h1,q⟩;obtain ⟨⟨v,H'⟩,rfl⟩:=q.1 rfl;rw [VF] at q;obtain ⟨h2,q⟩:=q;refine ⟨n,v,H', ?_,q⟩;show VM .recs (OI b mask H) (det (R4 E n) false lim g as (OI b mask H))=some (v,H');rw [Nas.2 h1];simp only [VM,Nl h2]
theorem WV.all {t:FuncId ⊕ Nat} {L:List (Value×NA)} (h:R4 E n mp lim t as H=some L):WV E mp lim t as H Q=Na2 E.dt L Q:=by
 apply propext;constructor
 ·rintro ⟨m,b,h1,h2⟩;have e1:=UU E (Qd n m) _ _ _ _ _ _ h;have e2:=UU E (Pu n m) _ _ _ _ _ _ h1;rw [e1] at e2;cases e2;exact h2
 ·exact fun a=>⟨n,L,h,a⟩
theorem NQ.det {H':NA} (h:R4 E n mp lim (.inl g) as H=some [(v,H')]):NQ E mp lim g as H Q=Q v H':=by
 rw [<-Nb8,WV.all h,VF]
theorem Nxt (ho:E.orc g as=none/\E.eff g as H=none) (c:E.tr g=some af) (hp:E.pure g=true) (b:olds H.length 4 v=true) (h:PT E af H.length [.code af.body] (NG as) H fun v' _=>v'=v):NQ E mp lim g as H Q=Q v H:=by
 obtain ⟨n,L,h1,hd,h2⟩:=h;have hL:=ZN E _ _ _ _ _ _ _ h1;cases L with
 | nil=>exact absurd rfl hL
 | cons x L=>
   obtain ⟨v',H'⟩:=x;have e1:v'=v:=h2 _ (Nu);subst e1;have a:(L.all fun r=>RV v' r.1)=true:=N7.2 fun r hr=>by
    have:r.1=v':=h2 r (Nr _ hr);rw [this];exact Mm v'
   exact NQ.det (n:=n) (by unfold R4 QV;simp only [ho.1,ho.2,c,hp,if_true,h1,a,b])
theorem Ngu (ho:E.orc g as=none/\E.eff g as H=none) (b:E.tr g=some af) (hp:E.pure g=true) (a:flat 4 v=true) (h:PT E af H.length [.code af.body] (NG as) H fun v' _=>v'=v):NQ E mp lim g as H Q=Q v H:=
 Nxt ho b hp (XV 4 a) h
theorem Nxs (ho:E.orc g as=some v) (a:as.all atom=true) (b:flat 4 v=true):NQ E mp lim g as H Q=Q v H:=
 NQ.det (n:=0) (by unfold R4 QV;simp only [ho,a,b,Bool.and_self,if_true])
theorem Wp (ho:E.orc g as=none/\E.eff g as H=none) (a:E.tr g=some af) (hp:E.pure g=false) (hm:mp=false):NQ E mp lim g as H Q=PT E af lim [.code af.body] (NG as) H Q:=by
 unfold NQ PT R4 QV;simp only [ho.1,ho.2,a,hp,hm,N3,if_false]
theorem Nb9 (ho:E.orc g as=none) (he:E.eff g as H=some r) (a:YI lim H r.2.2=true):NQ E false lim g as H Q=Q r.1 (Nrq H r.2):=
 NQ.det (n:=0) (by unfold R4 QV;simp only [ho,he,a,Qn,Bool.or_self,N3,if_false])
end
section
variable {E:Env} {af:AFunc} {lim:Nat} {K:List AItem} {fr fr':Nat->Value} {H H':NA} {R:Value->NA->Prop}
theorem Nzc {v:Value} {f:Value->NA->Prop}:RQ (some (v,H)) f=f v H:=rfl
theorem upd_same {d:Nat} {v:Value}:upd fr d v d=v:=by simp [upd]
theorem upd_ne {d t:Nat} {v:Value} (h:t≠d):upd fr d v t=fr t:=by simp [upd,h]
theorem Oai {t:Nat}:ev fr (.tmp t)=fr t:=rfl
theorem N2f {v:Value}:ev fr (.const v)=v:=rfl
theorem N6o {f:FuncId}:ev fr (.func f)=.func (.func f) #[] #[]:=rfl
theorem NS {X:NA} {j:Nat} (h:j<H.length):NE (H++X) j=NE H j:=by
 unfold NE;rw [Nb,Nb,Oa h]
theorem NY {X:NA} {j:Nat}:NE (H++X) (H.length+j)=X.getD j .dead:=by
 unfold NE;rw [Nb,Nb,Oi (by omega)];simp
theorem NN {X:NA}:NE (H++X) H.length=X.getD 0 .dead:=NY (j:=0)
theorem Njg {X:NA} {j:Nat} {b:Blk}:(H++X).set (H.length+j) b=H++X.set j b:=by
 rw [Qe _ _ (by omega)];simp
theorem Nys {X:NA} {b:Blk}:(H++X).set H.length b=H++X.set 0 b:=Njg (j:=0)
theorem N0d {b:Nat}:OI b [] H=H:=rfl
theorem No5 {b:Nat} {H0:NA}:OE b [] H0 H=H:=rfl
end
section
variable {E:Env} {lim b:Nat} {dest:Option Nat} {mask:List Nat} {fr:Nat->Value} {H:NA} {Q:Value->NA->Prop}
theorem N91 {a:Operand}:oK E lim none none mask (.mov a) fr H Q=RQ (NL lim none (.mov a) (ev fr) H) Q:=PN rfl
theorem N95 {a:Operand}:oK E lim (some b) dest mask (.mov a) fr H Q=RQ (NL lim (dest.map (b+·)) (.mov a) (ev fr) (OI b mask H)) fun v H'=>Q v (OE b mask H H'):=PE rfl
theorem N5j {c a b:Operand}:oK E lim none none mask (.pick c a b) fr H Q=RQ (NL lim none (.pick c a b) (ev fr) H) Q:=PN rfl
theorem N5r {d a c:Operand}:oK E lim (some b) dest mask (.pick d a c) fr H Q=RQ (NL lim (dest.map (b+·)) (.pick d a c) (ev fr) (OI b mask H)) fun v H'=>Q v (OE b mask H H'):=PE rfl
theorem N94 {a:BinOp} {b c:Operand}:oK E lim none none mask (.bin a b c) fr H Q=RQ (NL lim none (.bin a b c) (ev fr) H) Q:=PN rfl
theorem N98 {a:BinOp} {c d:Operand}:oK E lim (some b) dest mask (.bin a c d) fr H Q=RQ (NL lim (dest.map (b+·)) (.bin a c d) (ev fr) (OI b mask H)) fun v H'=>Q v (OE b mask H H'):=PE rfl
theorem N92 {a:Bool} {b:EqKind} {c d:Operand}:oK E lim none none mask (.eqv a b c d) fr H Q=RQ (NL lim none (.eqv a b c d) (ev fr) H) Q:=PN rfl
theorem N96 {a:Bool} {c:EqKind} {d e:Operand}:oK E lim (some b) dest mask (.eqv a c d e) fr H Q=RQ (NL lim (dest.map (b+·)) (.eqv a c d e) (ev fr) (OI b mask H)) fun v H'=>Q v (OE b mask H H'):=PE rfl
theorem Oc0 {a:UnOp} {b:Operand}:oK E lim none none mask (.un a b) fr H Q=RQ (NL lim none (.un a b) (ev fr) H) Q:=PN rfl
theorem Oc3 {a:UnOp} {c:Operand}:oK E lim (some b) dest mask (.un a c) fr H Q=RQ (NL lim (dest.map (b+·)) (.un a c) (ev fr) (OI b mask H)) fun v H'=>Q v (OE b mask H H'):=PE rfl
theorem N5m {a:IntKind} {b:Operand}:oK E lim none none mask (.conv a b) fr H Q=RQ (NL lim none (.conv a b) (ev fr) H) Q:=PN rfl
theorem N5u {a:IntKind} {c:Operand}:oK E lim (some b) dest mask (.conv a c) fr H Q=RQ (NL lim (dest.map (b+·)) (.conv a c) (ev fr) (OI b mask H)) fun v H'=>Q v (OE b mask H H'):=PE rfl
theorem Nzk {a:List Value}:oK E lim none none mask (.alloc a) fr H Q=RQ (NL lim none (.alloc a) (ev fr) H) Q:=PN rfl
theorem Nzy {a:List Value}:oK E lim (some b) dest mask (.alloc a) fr H Q=RQ (NL lim (dest.map (b+·)) (.alloc a) (ev fr) (OI b mask H)) fun v H'=>Q v (OE b mask H H'):=PE rfl
theorem N93 {a:Operand}:oK E lim none none mask (.box a) fr H Q=RQ (NL lim none (.box a) (ev fr) H) Q:=PN rfl
theorem N97 {a:Operand}:oK E lim (some b) dest mask (.box a) fr H Q=RQ (NL lim (dest.map (b+·)) (.box a) (ev fr) (OI b mask H)) fun v H'=>Q v (OE b mask H H'):=PE rfl
theorem Nzj {b:List Value} {a:List (Nat×Nat×Operand)}:oK E lim none none mask (.build b a) fr H Q=RQ (NL lim none (.build b a) (ev fr) H) Q:=PN rfl
theorem Nzx {c:List Value} {a:List (Nat×Nat×Operand)}:oK E lim (some b) dest mask (.build c a) fr H Q=RQ (NL lim (dest.map (b+·)) (.build c a) (ev fr) (OI b mask H)) fun v H'=>Q v (OE b mask H H'):=PE rfl
theorem Ngz {c:Nat} {b:List Value} {a:List (Nat×Nat×Operand)}:oK E lim none none mask (.buildSlice c b a) fr H Q=RQ (NL lim none (.buildSlice c b a) (ev fr) H) Q:=PN rfl
theorem Ng0 {d:Nat} {c:List Value} {a:List (Nat×Nat×Operand)}:oK E lim (some b) dest mask (.buildSlice d c a) fr H Q=RQ (NL lim (dest.map (b+·)) (.buildSlice d c a) (ev fr) (OI b mask H)) fun v H'=>Q v (OE b mask H H'):=PE rfl
theorem Nzg {a:Operand}:oK E lim none none mask (.load1 a) fr H Q=RQ (NL lim none (.load1 a) (ev fr) H) Q:=PN rfl
theorem Nzu {a:Operand}:oK E lim (some b) dest mask (.load1 a) fr H Q=RQ (NL lim (dest.map (b+·)) (.load1 a) (ev fr) (OI b mask H)) fun v H'=>Q v (OE b mask H H'):=PE rfl
theorem Nzf {b:Nat} {a:Operand}:oK E lim none none mask (.loadN b a) fr H Q=RQ (NL lim none (.loadN b a) (ev fr) H) Q:=PN rfl
theorem Nzr {c:Option Nat} {a:Operand}:oK E lim (some b) dest mask (.loadR c a) fr H Q=RQ (NL lim (dest.map (b+·)) (.loadR c a) (ev fr) (OI b mask H)) fun v H'=>Q v (OE b mask H H'):=PE rfl
theorem Nzt {c:Nat} {a:Operand}:oK E lim (some b) dest mask (.loadN c a) fr H Q=RQ (NL lim (dest.map (b+·)) (.loadN c a) (ev fr) (OI b mask H)) fun v H'=>Q v (OE b mask H H'):=PE rfl
theorem Nzs {d:Option Nat} {a c:Operand}:oK E lim (some b) dest mask (.loadO d a c) fr H Q=RQ (NL lim (dest.map (b+·)) (.loadO d a c) (ev fr) (OI b mask H)) fun v H'=>Q v (OE b mask H H'):=PE rfl
theorem Nvb {d:Nat} {a e c:Operand}:oK E lim (some b) dest mask (.storeO d a e c) fr H Q=RQ (NL lim (dest.map (b+·)) (.storeO d a e c) (ev fr) (OI b mask H)) fun v H'=>Q v (OE b mask H H'):=PE rfl
theorem Nvc {b c:Nat} {a d:Operand}:oK E lim (some b) dest mask (.storeD c a d) fr H Q=RQ (NL lim (dest.map (b+·)) (.storeD c a d) (ev fr) (OI b mask H)) fun v H'=>Q v (OE b mask H H'):=PE rfl
theorem Nze {b:Nat} {a c:Operand}:oK E lim none none mask (.store b a c) fr H Q=RQ (NL lim none (.store b a c) (ev fr) H) Q:=PN rfl
theorem Nzq {c:Nat} {a d:Operand}:oK E lim (some b) dest mask (.store c a d) fr H Q=RQ (NL lim (dest.map (b+·)) (.store c a d) (ev fr) (OI b mask H)) fun v H'=>Q v (OE b mask H H'):=PE rfl
theorem Nl8 {a:Operand}:oK E lim none none mask (.nilCheck a) fr H Q=RQ (NL lim none (.nilCheck a) (ev fr) H) Q:=PN rfl
theorem Nmj {a:Operand}:oK E lim (some b) dest mask (.nilCheck a) fr H Q=RQ (NL lim (dest.map (b+·)) (.nilCheck a) (ev fr) (OI b mask H)) fun v H'=>Q v (OE b mask H H'):=PE rfl
theorem Nju {a:Nat} {b:Operand}:oK E lim none none mask (.fieldAddr a b) fr H Q=RQ (NL lim none (.fieldAddr a b) (ev fr) H) Q:=PN rfl
theorem Nj0 {a:Nat} {c:Operand}:oK E lim (some b) dest mask (.fieldAddr a c) fr H Q=RQ (NL lim (dest.map (b+·)) (.fieldAddr a c) (ev fr) (OI b mask H)) fun v H'=>Q v (OE b mask H H'):=PE rfl
theorem Nu6 {a:Nat} {b:Operand}:oK E lim none none mask (.field1 a b) fr H Q=RQ (NL lim none (.field1 a b) (ev fr) H) Q:=PN rfl
theorem Nvk {a:Nat} {c:Operand}:oK E lim (some b) dest mask (.field1 a c) fr H Q=RQ (NL lim (dest.map (b+·)) (.field1 a c) (ev fr) (OI b mask H)) fun v H'=>Q v (OE b mask H H'):=PE rfl
theorem Nu5 {a b:Nat} {c:Operand}:oK E lim none none mask (.fieldN a b c) fr H Q=RQ (NL lim none (.fieldN a b c) (ev fr) H) Q:=PN rfl
theorem Nvj {a c:Nat} {d:Operand}:oK E lim (some b) dest mask (.fieldN a c d) fr H Q=RQ (NL lim (dest.map (b+·)) (.fieldN a c d) (ev fr) (OI b mask H)) fun v H'=>Q v (OE b mask H H'):=PE rfl
theorem Nmc {b a:Nat} {d c:Operand}:oK E lim none none mask (.idxAddrA b a d c) fr H Q=RQ (NL lim none (.idxAddrA b a d c) (ev fr) H) Q:=PN rfl
theorem Nmn {c a:Nat} {e d:Operand}:oK E lim (some b) dest mask (.idxAddrA c a e d) fr H Q=RQ (NL lim (dest.map (b+·)) (.idxAddrA c a e d) (ev fr) (OI b mask H)) fun v H'=>Q v (OE b mask H H'):=PE rfl
theorem N5l {c b:Nat} {a:Bool} {e d:Operand}:oK E lim none none mask (.idxA c b a e d) fr H Q=RQ (NL lim none (.idxA c b a e d) (ev fr) H) Q:=PN rfl
theorem N5t {d c:Nat} {a:Bool} {f e:Operand}:oK E lim (some b) dest mask (.idxA d c a f e) fr H Q=RQ (NL lim (dest.map (b+·)) (.idxA d c a f e) (ev fr) (OI b mask H)) fun v H'=>Q v (OE b mask H H'):=PE rfl
theorem Nu4 {b a:Operand}:oK E lim none none mask (.idxStr b a) fr H Q=RQ (NL lim none (.idxStr b a) (ev fr) H) Q:=PN rfl
theorem Nvi {c a:Operand}:oK E lim (some b) dest mask (.idxStr c a) fr H Q=RQ (NL lim (dest.map (b+·)) (.idxStr c a) (ev fr) (OI b mask H)) fun v H'=>Q v (OE b mask H H'):=PE rfl
theorem Nuz {a:Nat} {e:Operand} {c b d:Option Operand}:oK E lim none none mask (.sliceS a e c b d) fr H Q=RQ (NL lim none (.sliceS a e c b d) (ev fr) H) Q:=PN rfl
theorem Nvd {a:Nat} {f:Operand} {d c e:Option Operand}:oK E lim (some b) dest mask (.sliceS a f d c e) fr H Q=RQ (NL lim (dest.map (b+·)) (.sliceS a f d c e) (ev fr) (OI b mask H)) fun v H'=>Q v (OE b mask H H'):=PE rfl
theorem Nl7 {c:Operand} {b a:Option Operand}:oK E lim none none mask (.sliceStr c b a) fr H Q=RQ (NL lim none (.sliceStr c b a) (ev fr) H) Q:=PN rfl
theorem Nmi {d:Operand} {c a:Option Operand}:oK E lim (some b) dest mask (.sliceStr d c a) fr H Q=RQ (NL lim (dest.map (b+·)) (.sliceStr d c a) (ev fr) (OI b mask H)) fun v H'=>Q v (OE b mask H H'):=PE rfl
theorem Nu2 {a:Operand}:oK E lim none none mask (.lenStr a) fr H Q=RQ (NL lim none (.lenStr a) (ev fr) H) Q:=PN rfl
theorem Nvg {a:Operand}:oK E lim (some b) dest mask (.lenStr a) fr H Q=RQ (NL lim (dest.map (b+·)) (.lenStr a) (ev fr) (OI b mask H)) fun v H'=>Q v (OE b mask H H'):=PE rfl
theorem Nmd {a:Operand}:oK E lim none none mask (.capSlice a) fr H Q=RQ (NL lim none (.capSlice a) (ev fr) H) Q:=PN rfl
theorem Nmo {a:Operand}:oK E lim (some b) dest mask (.capSlice a) fr H Q=RQ (NL lim (dest.map (b+·)) (.capSlice a) (ev fr) (OI b mask H)) fun v H'=>Q v (OE b mask H H'):=PE rfl
theorem Nma {a:Operand}:oK E lim none none mask (.lenSlice a) fr H Q=RQ (NL lim none (.lenSlice a) (ev fr) H) Q:=PN rfl
theorem Nml {a:Operand}:oK E lim (some b) dest mask (.lenSlice a) fr H Q=RQ (NL lim (dest.map (b+·)) (.lenSlice a) (ev fr) (OI b mask H)) fun v H'=>Q v (OE b mask H H'):=PE rfl
theorem Nu3 {a:Operand}:oK E lim none none mask (.lenMap a) fr H Q=RQ (NL lim none (.lenMap a) (ev fr) H) Q:=PN rfl
theorem Nvh {a:Operand}:oK E lim (some b) dest mask (.lenMap a) fr H Q=RQ (NL lim (dest.map (b+·)) (.lenMap a) (ev fr) (OI b mask H)) fun v H'=>Q v (OE b mask H H'):=PE rfl
theorem N5k {a:Nat}:oK E lim none none mask (.lenK a) fr H Q=RQ (NL lim none (.lenK a) (ev fr) H) Q:=PN rfl
theorem N5s {a:Nat}:oK E lim (some b) dest mask (.lenK a) fr H Q=RQ (NL lim (dest.map (b+·)) (.lenK a) (ev fr) (OI b mask H)) fun v H'=>Q v (OE b mask H H'):=PE rfl
theorem Nu8 {b a:Nat} {c:Bool} {d e:Operand}:oK E lim none none mask (.append b a c d e) fr H Q=RQ (NL lim none (.append b a c d e) (ev fr) H) Q:=PN rfl
theorem Nvm {c a:Nat} {d:Bool} {e f:Operand}:oK E lim (some b) dest mask (.append c a d e f) fr H Q=RQ (NL lim (dest.map (b+·)) (.append c a d e f) (ev fr) (OI b mask H)) fun v H'=>Q v (OE b mask H H'):=PE rfl
theorem Np9 {b a:Nat} {c:Bool} {d e:Operand}:oK E lim none none mask (.append0 b a c d e) fr H Q=RQ (NL lim none (.append0 b a c d e) (ev fr) H) Q:=PN rfl
theorem Nqh {c a:Nat} {d:Bool} {e f:Operand}:oK E lim (some b) dest mask (.append0 c a d e f) fr H Q=RQ (NL lim (dest.map (b+·)) (.append0 c a d e f) (ev fr) (OI b mask H)) fun v H'=>Q v (OE b mask H H'):=PE rfl
theorem Nu0 {a:Bool} {b:List Operand}:oK E lim none none mask (.minmax a b) fr H Q=RQ (NL lim none (.minmax a b) (ev fr) H) Q:=PN rfl
theorem Nve {a:Bool} {c:List Operand}:oK E lim (some b) dest mask (.minmax a c) fr H Q=RQ (NL lim (dest.map (b+·)) (.minmax a c) (ev fr) (OI b mask H)) fun v H'=>Q v (OE b mask H H'):=PE rfl
theorem Njt {d a:Nat} {b:List Value} {e c:Operand}:oK E lim none none mask (.makeSlice d a b e c) fr H Q=RQ (NL lim none (.makeSlice d a b e c) (ev fr) H) Q:=PN rfl
theorem Njz {e a:Nat} {c:List Value} {f d:Operand}:oK E lim (some b) dest mask (.makeSlice e a c f d) fr H Q=RQ (NL lim (dest.map (b+·)) (.makeSlice e a c f d) (ev fr) (OI b mask H)) fun v H'=>Q v (OE b mask H H'):=PE rfl
theorem Np7 {d a:Nat} {b:List Value} {e c:Operand}:oK E lim none none mask (.growNil d a b e c) fr H Q=RQ (NL lim none (.growNil d a b e c) (ev fr) H) Q:=PN rfl
theorem Nqf {e a:Nat} {c:List Value} {f d:Operand}:oK E lim (some b) dest mask (.growNil e a c f d) fr H Q=RQ (NL lim (dest.map (b+·)) (.growNil e a c f d) (ev fr) (OI b mask H)) fun v H'=>Q v (OE b mask H H'):=PE rfl
theorem Np6 {a:Option Operand}:oK E lim none none mask (.makeMap a) fr H Q=RQ (NL lim none (.makeMap a) (ev fr) H) Q:=PN rfl
theorem Nqe {a:Option Operand}:oK E lim (some b) dest mask (.makeMap a) fr H Q=RQ (NL lim (dest.map (b+·)) (.makeMap a) (ev fr) (OI b mask H)) fun v H'=>Q v (OE b mask H H'):=PE rfl
theorem Nu1 {c:KK} {a:Value} {d:Bool} {e b:Operand}:oK E lim none none mask (.lookup c a d e b) fr H Q=RQ (NL lim none (.lookup c a d e b) (ev fr) H) Q:=PN rfl
theorem Nvf {d:KK} {a:Value} {e:Bool} {f c:Operand}:oK E lim (some b) dest mask (.lookup d a e f c) fr H Q=RQ (NL lim (dest.map (b+·)) (.lookup d a e f c) (ev fr) (OI b mask H)) fun v H'=>Q v (OE b mask H H'):=PE rfl
theorem Njs {b:KK} {c a d:Operand}:oK E lim none none mask (.mapUpdate b c a d) fr H Q=RQ (NL lim none (.mapUpdate b c a d) (ev fr) H) Q:=PN rfl
theorem Njy {c:KK} {d a e:Operand}:oK E lim (some b) dest mask (.mapUpdate c d a e) fr H Q=RQ (NL lim (dest.map (b+·)) (.mapUpdate c d a e) (ev fr) (OI b mask H)) fun v H'=>Q v (OE b mask H H'):=PE rfl
theorem Nzi {b:List Value} {a:Operand}:oK E lim none none mask (.clear b a) fr H Q=RQ (NL lim none (.clear b a) (ev fr) H) Q:=PN rfl
theorem Nzw {c:List Value} {a:Operand}:oK E lim (some b) dest mask (.clear c a) fr H Q=RQ (NL lim (dest.map (b+·)) (.clear c a) (ev fr) (OI b mask H)) fun v H'=>Q v (OE b mask H H'):=PE rfl
theorem Nu7 {b:KK} {c a:Operand}:oK E lim none none mask (.delete b c a) fr H Q=RQ (NL lim none (.delete b c a) (ev fr) H) Q:=PN rfl
theorem Nvl {c:KK} {d a:Operand}:oK E lim (some b) dest mask (.delete c d a) fr H Q=RQ (NL lim (dest.map (b+·)) (.delete c d a) (ev fr) (OI b mask H)) fun v H'=>Q v (OE b mask H H'):=PE rfl
theorem Nl9 {c:FuncId} {b a:List Operand}:oK E lim none none mask (.makeFunc c b a) fr H Q=RQ (NL lim none (.makeFunc c b a) (ev fr) H) Q:=PN rfl
theorem Nmk {d:FuncId} {c a:List Operand}:oK E lim (some b) dest mask (.makeFunc d c a) fr H Q=RQ (NL lim (dest.map (b+·)) (.makeFunc d c a) (ev fr) (OI b mask H)) fun v H'=>Q v (OE b mask H H'):=PE rfl
theorem Np8 {a:Nat} {b:Operand}:oK E lim none none mask (.extract a b) fr H Q=RQ (NL lim none (.extract a b) (ev fr) H) Q:=PN rfl
theorem Nqg {a:Nat} {c:Operand}:oK E lim (some b) dest mask (.extract a c) fr H Q=RQ (NL lim (dest.map (b+·)) (.extract a c) (ev fr) (OI b mask H)) fun v H'=>Q v (OE b mask H H'):=PE rfl
theorem Np5 {a:Operand}:oK E lim none none mask (.rowMark a) fr H Q=RQ (NL lim none (.rowMark a) (ev fr) H) Q:=PN rfl
theorem Nqd {a:Operand}:oK E lim (some b) dest mask (.rowMark a) fr H Q=RQ (NL lim (dest.map (b+·)) (.rowMark a) (ev fr) (OI b mask H)) fun v H'=>Q v (OE b mask H H'):=PE rfl
theorem Nzd {a:Operand}:oK E lim none none mask (.strId a) fr H Q=RQ (NL lim none (.strId a) (ev fr) H) Q:=PN rfl
theorem Nzp {a:Operand}:oK E lim (some b) dest mask (.strId a) fr H Q=RQ (NL lim (dest.map (b+·)) (.strId a) (ev fr) (OI b mask H)) fun v H'=>Q v (OE b mask H H'):=PE rfl
end
section
variable {E:Env} {af:AFunc} {lim:Nat} {K:List AItem} {fr:Nat->Value} {H:NA} {R:Value->NA->Prop}
theorem Obz {base g o dest mask l} {d:Nat} (hd:d<af.ntmps):PT E af lim (.ops base (⟨some d,g,o,dest,mask⟩::l)::K) fr H R =
  gK af.ntmps fr g (oK E lim base dest mask o fr H fun v H'=>PT E af lim (.ops base l::K) (upd fr d v) H' R) (PT E af lim (.ops base l::K) (upd fr d undef) H R):=N9e (d:=some d) (by simp [dOk,hd])
theorem Ob0 {base g o dest mask l}:PT E af lim (.ops base (⟨none,g,o,dest,mask⟩::l)::K) fr H R =
  gK af.ntmps fr g (oK E lim base dest mask o fr H fun v H'=>PT E af lim (.ops base l::K) fr H' R) (PT E af lim (.ops base l::K) fr H R):=N9e (d:=none) rfl
end
section
variable {E:Env} {af:AFunc} {lim:Nat} {K:List AItem} {fr:Nat->Value} {H:NA} {R:Value->NA->Prop}
end
section
variable {p q:Prop} {c:Prop} [Decidable c]
variable {b:Bool}
theorem Nxy:Uq (.bool true) true p q=p:=by simp [Uq]
theorem Nx1:Uq (.bool false) false p q=p:=by simp [Uq]
theorem Nxz:Uq (.bool true) false p q=q:=by simp [Uq]
theorem Nx0:Uq (.bool false) true p q=q:=by simp [Uq]
theorem N20:Nfz (.bool true) p q=p:=rfl
theorem N21:Nfz (.bool false) p q=q:=rfl
theorem Xl (h1:c->Uq (.bool true) b p q) (h2:¬c->Uq (.bool false) b p q):Uq (.bool (decide c)) b p q:=by
 by_cases h:c
 ·rw [Nj h];exact h1 h
 ·rw [Nw h];exact h2 h
theorem XE (h1:c->p) (h2:¬c->q):Nfz (.bool (decide c)) p q:=by
 by_cases h:c
 ·rw [Nj h];exact h1 h
 ·rw [Nw h];exact h2 h
theorem Xm {t:Bool} (h1:t=true->Uq (.bool true) b p q) (h2:t=false->Uq (.bool false) b p q):Uq (.bool t) b p q:=by
 cases t
 ·exact h2 rfl
 ·exact h1 rfl
theorem XF {t:Bool} (h1:t=true->p) (h2:t=false->q):Nfz (.bool t) p q:=by
 cases t
 ·exact h2 rfl
 ·exact h1 rfl
theorem N6d {a b:Int}:(a == b)=decide (a=b):=by by_cases h:a=b<;>simp [h]
theorem N6c {a b:Int}:(a != b)=decide (¬a=b):=by by_cases h:a=b<;>simp [h,bne]
theorem N5y:(!decide c)=decide (¬c):=by by_cases h:c<;>simp [h]
end
def U9 (off size:Nat) (v:Value) (c:List Value):Option (List Value):=
 if v.cells.toList.length=size/\off+size<=c.length/\NB v=true then some (QI c off v.cells.toList) else none
def Nn1 (ρ:Operand->Value) (rest:List (Nat×Nat×Operand)) (r:Option (List Value)):Option (List Value):=match r with | some c=>RU ρ rest c | none=>none
theorem Nfn {ρ:Operand->Value} {off size:Nat} {x:Operand} {rest:List (Nat×Nat×Operand)} {c:List Value}:RU ρ ((off,size,x)::rest) c=Nn1 ρ rest (U9 off size (ρ x) c):=by
 unfold Nn1 U9;simp only [RU];split<;>rfl
theorem Ng2 {ρ:Operand->Value} {c:List Value}:RU ρ [] c=some c:=rfl
theorem Nrg {ρ:Operand->Value} {rest:List (Nat×Nat×Operand)} {c:List Value}:Nn1 ρ rest (some c)=RU ρ rest c:=rfl
theorem Nn0 {rest:List (Nat×Nat×Operand)} (h:r=r'):Nn1 ρ rest r=Nn1 ρ rest r':=by rw [h]
theorem Nnz {off size:Nat} {v':Value} (h:v=v'):U9 off size v c=U9 off size v' c:=by rw [h]
attribute [congr] Nn0 Nnz
theorem Wl {off:Nat} (b:v.oneCell'=true) (a:NB v=true) (h:off<c.length):U9 off 1 v c=some (c.set off v):=by
 cases v<;>first | (simp [Value.oneCell'] at b;done) | (simp [NB] at a;done) | (unfold U9;rw [Nl ⟨by simp [Value.cells],h,a⟩];rfl)
theorem Nwi {off:Nat} {k:IntKind} {n:Int} {c:List Value} (h:off<c.length):U9 off 1 (.int k n) c=some (c.set off (.int k n)):=Wl rfl rfl h
theorem Nrf {off:Nat} {b:Bool} {c:List Value} (h:off<c.length):U9 off 1 (.bool b) c=some (c.set off (.bool b)):=Wl rfl rfl h
theorem Nwj {off n:Nat} {l c:List Value} (h:l.length=n/\off+n<=c.length):U9 off n (.agg l.toArray) c=some (QI c off l):=by
 unfold U9;rw [Nl ⟨by simpa [Value.cells] using h.1,h.2,rfl⟩];rfl
theorem Npl {c:List Value} {o:Nat}:QI c o []=c:=rfl
theorem U5 {c:List Value} {o:Nat} {v:Value} {vs:List Value}:QI c o (v::vs)=QI (c.set o v) (o+1) vs:=rfl
section
variable {fr:Nat->Value} {H:NA}
theorem Nww {a:Array Value}:(Value.agg a).cells=a:=rfl
theorem Nwv {k:IntKind} {n:Int}:(Value.int k n).cells=#[.int k n]:=rfl
theorem Nr0 {b:Bool}:(Value.bool b).cells=#[.bool b]:=rfl
theorem N3g {l:List Value}:l.toArray.toList=l:=rfl
theorem N3f {l:List Value}:l.toArray.size=l.length:=rfl
def N2z:Option Value->Option (List Value)->Option (List Value)
 | some v,some vs=>some (v::vs)
 | _,_=>none
def N2e:Option (List Value)->Option Value
 | some [v]=>some v
 | some vs=>some (.tuple vs.toArray)
 | none=>none
theorem Nps:Vl fr H []=some []:=rfl
theorem Nly {r:ARes} {a:List ARes}:Vl fr H (r::a)=N2z (NC fr H r) (Vl fr H a):=by
 unfold N2z;simp only [Vl];cases NC fr H r<;>cases Vl fr H a<;>rfl
theorem Npr {a:List ARes}:result fr H a=N2e (Vl fr H a):=by
 unfold N2e result;cases Vl fr H a<;>rfl
theorem Nru {v:Value} {vs:List Value}:N2z (some v) (some vs)=some (v::vs):=rfl
theorem N2c {v:Value}:N2e (some [v])=some v:=rfl
theorem Nwd {v u:Value} {vs:List Value}:N2e (some (v::u::vs))=some (.tuple (v::u::vs).toArray):=rfl
theorem N2d:N2e (some [])=some (.tuple #[]):=rfl
end
def Vq (e:Nat) (x i:Value) (H:NA):Option (Value×NA):=match x,i with
    | .slice (some p) len _,.int _ n=>if 0<=n/\n<(len:Int) then some (.pointer (some (p.add (n.toNat*e))),H) else none
    | _,_=>none
theorem Noo {lim:Nat} {dest:Option Nat} {e:Nat} {x i:Operand}:NL lim dest (.idxAddrS e x i) ρ H=Vq e (ρ x) (ρ i) H:=by
 simp only [NL];unfold Vq;rfl
theorem Zc {e n len c:Nat} {p:Addr} {k:IntKind} {H:NA} (h:n<len):Vq e (.slice (some p) len c) (.int k (n:Int)) H=some (.pointer (some (p.add (n*e))),H):=by
 unfold Vq;simp only;rw [Nl ⟨by omega,by omega⟩];simp
section
variable {E:Env} {lim b:Nat} {dest:Option Nat} {mask:List Nat} {fr:Nat->Value} {H:NA} {Q:Value->NA->Prop}
theorem Nmb {e:Nat} {x i:Operand}:oK E lim none none mask (.idxAddrS e x i) fr H Q=RQ (Vq e (ev fr x) (ev fr i) H) Q:=by rw [PN rfl,Noo]
theorem Nmm {e:Nat} {x i:Operand}:oK E lim (some b) dest mask (.idxAddrS e x i) fr H Q=RQ (Vq e (ev fr x) (ev fr i) (OI b mask H)) fun v H'=>Q v (OE b mask H H'):=by rw [PE rfl,Noo]
end
theorem addr_add {b o n:Nat}:(⟨b,o,none⟩:Addr).add n=⟨b,o+n,none⟩:=by
 simp only [Addr.add]
 first | rfl | (split<;>simp_all)
theorem OC {n:Nat} (h:n+1<2 ^ 63):IntKind.i64.wrap ((n:Int)+1)=((n+1:Nat):Int):=by
 have h1:((n:Int)+1) % 2 ^ 64=(n:Int)+1:=Rj (by omega) (by omega);simp only [IntKind.wrap,IntKind.bits,IntKind.signed,h1];rw [Ng (by simp;omega)];omega
section
variable {b i:Nat} {l:List Nat} {H H0:NA}
theorem Nvr:OI b (i::l) H=OI b l (H.set (b+i) .dead):=rfl
theorem Nlc:OE b (i::l) H0 H=OE b l H0 (H.set (b+i) (NE H0 (b+i))):=rfl
theorem N5g:List.replicate 1 Blk.dead=[.dead]:=rfl
theorem Ny9:List.replicate 0 Blk.dead=[]:=rfl
theorem N5f:List.replicate 2 Blk.dead=[.dead,.dead]:=rfl
theorem Nux:List.replicate 3 Blk.dead=[.dead,.dead,.dead]:=rfl
end
end Go.AM




