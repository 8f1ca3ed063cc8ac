/-
  Joined texts, 5 of 11. A part of the claim that the last text states.
-/
import Derived.Test.YtkppjkkkdpcgiaaGreatPT4
set_option linter.unusedVariables false
set_option linter.unusedSimpArgs false
set_option linter.defProp false
set_option linter.unusedSectionVars false
set_option maxRecDepth 100000
set_option maxHeartbeats 4000000
namespace Go.Scan
variable {e x:Ev} {S:List Ev} {M V l out:List Mk} {a b m c:Mk}
abbrev Es:=List ((Int×Int)×Mk)
theorem Nnm {k:Int×Int} {m:Mk}:∀{l:Es},Xz k l=some m->(k,m)∈l
 | [],h=>by cases h
 | (k',m')::l,h=>by
   unfold Xz at h;by_cases hk:k'=k
   ·rw [Nl hk] at h;cases h;rw [hk];exact Nu
   ·rw [Ng hk] at h;exact Nr _ (Nnm h)
def Nb7 (l:Es):Prop:=(l.map (·.1)).Nodup
theorem Nti {k:Int×Int} {m:Mk}:∀{l:Es},Nb7 l->(k,m)∈l->Xz k l=some m
 | [],_,h=>by cases h
 | (k',m')::l,hn,h=>by
   have a:=List.nodup_cons.mp hn;unfold Xz;rcases Ns.mp h with h | h
   ·cases h;rw [Nl rfl]
   ·rw [Ng fun hk=>a.1 (by rw [hk];exact List.mem_map.mpr ⟨_,h,rfl⟩)];exact Nti a.2 h
theorem Nhv {k:Int×Int} {m:Mk}:∀{l:Es} {x},x∈(Xu k m l).map (·.1)↔x=k\/x∈l.map (·.1)
 | [],x=>by simp [Xu]
 | (k',m')::l,x=>by
   unfold Xu;by_cases hk:k'=k
   ·rw [Nl hk];subst hk;simp
   ·rw [Ng hk,Oj,Ns,Nhv,Oj,Ns];exact or_left_comm
theorem Neo {k:Int×Int} {m:Mk}:∀{l:Es},Nb7 l->Nb7 (Xu k m l)
 | [],_=>by simp [Xu,Nb7]
 | (k',m')::l,h=>by
   have h2:=List.nodup_cons.mp h;unfold Xu;by_cases hk:k'=k
   ·rw [Nl hk];exact h
   ·rw [Ng hk];refine List.nodup_cons.mpr ⟨fun hc=>?_,Neo h2.2⟩;rcases Nhv.mp hc with hc | hc
    ·exact hk hc
    ·exact h2.1 hc
theorem Nfg {k k':Int×Int} {m:Mk}:∀{l:Es},Xz k' (Xu k m l)=if k'=k then some m else Xz k' l
 | []=>by
   unfold Xu Xz;by_cases h:k'=k
   ·rw [Nl h.symm,Nl h]
   ·rw [Ng fun q=>h q.symm,Ng h];rfl
 | (k2,m2)::l=>by
   unfold Xu;by_cases h2:k2=k
   ·rw [Nl h2];subst h2;by_cases h:k'=k2
    ·rw [Nl h];unfold Xz;rw [Nl h.symm]
    ·rw [Ng h];unfold Xz;rw [Ng fun q=>h q.symm,Ng fun q=>h q.symm]
   ·rw [Ng h2];by_cases h:k2=k'
    ·have:¬k'=k:=fun q=>h2 (h.trans q)
     rw [Ng this];unfold Xz;rw [Nl h,Nl h]
    ·unfold Xz;rw [Ng h,Ng h];exact Nfg
structure LeastOf (S:List Ev) (l:Es):Prop where
 nd:Nb7 l
 from':∀k m,Xz k l=some m->∃s∈S,SC s=k/\V3 s=m
 all:∀s∈S,∃m,Xz (SC s) l=some m/\¬RG (V3 s) m
theorem Nkr (h:¬RG a b) (h2:RG c b):¬RG a c:=by
 unfold RG at *;omega
theorem Nog:¬RG a a:=by unfold RG;omega
theorem LeastOf.add {l:Es} (h:LeastOf S l) (s:Ev):LeastOf (S++[s]) (SY l s):=by
 have put:(∀m,Xz (SC s) l=some m->RG (V3 s) m)->LeastOf (S++[s]) (Xu (SC s) (V3 s) l):=by
  intro a;refine ⟨Neo h.nd,fun k m hk=>?_,fun x hx=>?_⟩
  ·rw [Nfg] at hk;by_cases q:k=SC s
   ·rw [Nl q] at hk;cases hk;exact ⟨s,by simp,q.symm,rfl⟩
   ·rw [Ng q] at hk;obtain ⟨y,b,h1,h2⟩:=h.from' k m hk;exact ⟨y,O9 _ b,h1,h2⟩
  ·rw [Nfg];rcases Ok.mp hx with hx | hx
   ·obtain ⟨m,h1,h2⟩:=h.all x hx;by_cases q:SC x=SC s
    ·rw [Nl q];rw [q] at h1;exact ⟨_,rfl,Nkr h2 (a m h1)⟩
    ·rw [Ng q];exact ⟨m,h1,h2⟩
   ·rw [Nq] at hx;subst hx;rw [Nl rfl];exact ⟨_,rfl,Nog⟩
 unfold SY;cases hg:Xz (SC s) l with
 | none=>exact put (by rw [hg];intro m h;cases h)
 | some old=>
   dsimp only;by_cases a:RG (V3 s) old
   ·rw [Nl a];exact put (by rw [hg];intro m h;cases h;exact a)
   ·rw [Ng a];refine ⟨h.nd,fun k m hk=>?_,fun x hx=>?_⟩
    ·obtain ⟨y,b,h1,h2⟩:=h.from' k m hk;exact ⟨y,O9 _ b,h1,h2⟩
    ·rcases Ok.mp hx with hx | hx
     ·exact h.all x hx
     ·rw [Nq] at hx;subst hx;exact ⟨old,hg,a⟩
theorem Nm6:∀(T S:List Ev) (l:Es),LeastOf S l->LeastOf (S++T) (T.foldl SY l)
 | [],S,l,h=>by rw [Na];exact h
 | s::T,S,l,h=>by
   have:=Nm6 T (S++[s]) _ (h.add s);rw [No] at this;exact this
theorem Nbq (S:List Ev):LeastOf S (Vo S):=by
 have:=Nm6 S [] [] ⟨by simp [Nb7],fun k m h=>(by cases h),fun s h=>(O8 h).elim⟩;exact this
theorem Oc4 (hs:a.scanner=b.scanner) (h1:¬RG a b) (h2:¬RG b a):a=b:=by
 obtain ⟨a1,a2,c⟩:=a;obtain ⟨b1,b2,b3⟩:=b;unfold RG at h1 h2;simp only at hs h1 h2;have e1:a2=b2:=by omega
 have e2:c=b3:=by omega
 rw [hs,e1,e2]
theorem LeastOf.get {l:Es} (h:LeastOf S l) {k:Int×Int}:Xz k l=some m↔(∃s∈S,SC s=k/\V3 s=m)/\∀x∈S,SC x=k->¬RG (V3 x) m:=by
 constructor
 ·intro hk;refine ⟨h.from' k m hk,fun x e d=>?_⟩;obtain ⟨g,h1,h2⟩:=h.all x e;rw [d,hk] at h1;cases h1;exact h2
 ·rintro ⟨⟨s,hs,rfl,rfl⟩,c⟩;obtain ⟨g,h1,h2⟩:=h.all s hs;obtain ⟨y,f,hk,rfl⟩:=h.from' _ _ h1;rw [h1,Oc4 (a:=V3 s) (b:=V3 y) (Q2 (·.1) hk.symm) h2 (c y f hk)]
theorem Nb4 (p:Mk):∀l,(UZ p l).Sublist l
 | []=>.refl _
 | m::l=>by
   unfold UZ;split
   ·exact (Nb4 m l).trans (List.sublist_cons_self _ _)
   ·exact (Nb4 m l).cons_cons m
theorem N0m (h:RX (Si a) (Si b)<=0):VW a b\/Rs b a/\a.off<=b.off:=by
 unfold Si RX at h;by_cases h1:a.scanner<b.scanner
 ·exact .inl (.inl h1)
 rw [Ng h1] at h;by_cases h2:b.scanner<a.scanner
 ·rw [Nl h2] at h;omega
 rw [Ng h2] at h;have e1:a.scanner=b.scanner:=by omega
 unfold RX at h;by_cases c:a.at'<b.at'
 ·exact .inl (.inr ⟨e1,c⟩)
 rw [Ng c] at h;by_cases d:b.at'<a.at'
 ·rw [Nl d] at h;omega
 rw [Ng d] at h;unfold RX at h;by_cases h5:a.off<b.off
 ·exact .inr ⟨⟨e1.symm,by omega⟩,by omega⟩
 rw [Ng h5] at h;by_cases e:b.off<a.off
 ·rw [Nl e] at h;omega
 exact .inr ⟨⟨e1.symm,by omega⟩,by omega⟩
theorem Nh6 (h:VW a b) (h2:VW b c):VW a c:=by unfold VW at *;omega
theorem Nmy (h:VW a b) (h2:Rs c b):VW a c:=by unfold VW Rs at *;omega
theorem Nn6:∀(l:List Mk) (p:Mk),TJ Si (p::l)->(UZ p l).Pairwise VW/\(∀x∈UZ p l,VW p x)/\∀x∈l,Rs x p/\p.off<=x.off\/∃y∈UZ p l,Rs x y/\y.off<=x.off
 | [],p,_=>by simp [UZ]
 | m::l,p,h=>by
   obtain ⟨h1,h2⟩:=List.pairwise_cons.mp h;obtain ⟨d,c,e⟩:=Nn6 l m h2;have b:=N0m (h1 m Nu);unfold UZ;by_cases hs:Rs m p
   ·rw [Nl hs];have f:p.off<=m.off:=by
     rcases b with q | q
     ·unfold VW at q;unfold Rs at hs;omega
     ·exact q.2
    refine ⟨d,fun x hx=>?_,fun x hx=>?_⟩
    ·have:=c x hx;unfold VW at *;unfold Rs at hs;omega
    ·rcases Ns.mp hx with rfl | hx
     ·exact .inl ⟨hs,f⟩
     ·rcases e x hx with q | q
      ·refine .inl ⟨?_,by omega⟩;have:=q.1;unfold Rs at *;omega
      ·exact .inr q
   ·rw [Ng hs];have a:VW p m:=by
     rcases b with q | q
     ·exact q
     ·exact absurd q.1 hs
    refine ⟨List.pairwise_cons.mpr ⟨c,d⟩,fun x hx=>?_,fun x hx=>?_⟩
    ·rcases Ns.mp hx with rfl | hx
     ·exact a
     ·exact Nh6 a (c x hx)
    ·rcases Ns.mp hx with rfl | hx
     ·exact .inr ⟨x,Nu,⟨rfl,rfl⟩,Ow _⟩
     ·rcases e x hx with q | ⟨y,g,q⟩
      ·exact .inr ⟨m,Nu,q⟩
      ·exact .inr ⟨y,Nr _ g,q⟩
theorem WP (h:TJ Si l):(Sy l).Pairwise VW/\(Sy l).Sublist l/\∀x∈l,∃y∈Sy l,Rs x y/\y.off<=x.off:=by
 cases l with
 | nil=>exact ⟨List.Pairwise.nil,.refl _,fun x h=>by cases h⟩
 | cons m l=>
   obtain ⟨b,c,d⟩:=Nn6 l m h;refine ⟨List.pairwise_cons.mpr ⟨c,b⟩,(Nb4 m l).cons_cons m,fun x hx=>?_⟩;rcases Ns.mp hx with rfl | hx
   ·exact ⟨x,Nu,⟨rfl,rfl⟩,Ow _⟩
   ·rcases d x hx with q | ⟨y,a,q⟩
    ·exact ⟨m,Nu,q⟩
    ·exact ⟨y,Nr _ a,q⟩
def MI (S:List Ev):List Mk:=(Vo S).map (·.2)
theorem Nk7:m∈MI S↔∃s∈S,V3 s=m/\∀x∈S,SC x=SC s->¬RG (V3 x) m:=by
 unfold MI;rw [List.mem_map];constructor
 ·rintro ⟨⟨k,b⟩,h,rfl⟩;obtain ⟨⟨s,hs,rfl,rfl⟩,a⟩:=(Nbq S).get.mp (Nti (Nbq S).nd h);exact ⟨s,hs,rfl,a⟩
 ·rintro ⟨s,hs,rfl,a⟩;exact ⟨(SC s,V3 s),Nnm ((Nbq S).get.mpr ⟨⟨s,hs,rfl,rfl⟩,a⟩),rfl⟩
theorem Nx2 (S:List Ev):(MI S).length<=S.length:=by
 have put:∀(k:Int×Int) (m:Mk) (l:Es),(Xu k m l).length<=l.length+1:=by
  intro k m l
  induction l with
  | nil=>simp [Xu]
  | cons a l ih=>
    unfold Xu;split
    ·simp
    ·simp only [Nm];omega
 have key:∀(T:List Ev) (l:Es),(T.foldl SY l).length<=l.length+T.length:=by
  intro T
  induction T with
  | nil=>intro l;simp
  | cons s T ih=>
    intro l;have h1:=ih (SY l s);have h2:(SY l s).length<=l.length+1:=by
     unfold SY;split
     ·exact put _ _ _
     split
     ·exact put _ _ _
     ·omega
    simp only [O1,Nm];omega
 have:=key S [];unfold MI Vo;rw [Nz];simpa using this
theorem V6 (S:List Ev):TJ Si (UI Si (MI S)):=UH ZC _
theorem Nij (S:List Ev):(QZ S).Pairwise VW:=(WP (V6 S)).1
theorem Ncx (h:m∈QZ S):m∈MI S:=(Tm Si _).mem_iff.mp ((WP (V6 S)).2.1.mem h)
theorem Nnp (h:m∈MI S):∃y∈QZ S,Rs m y/\y.off<=m.off:=(WP (V6 S)).2.2 m ((Tm Si _).mem_iff.mpr h)
theorem Nnq (hS:∀s∈S,RA s) (h:m∈QZ S):X7 m:=by
 obtain ⟨s,hs,rfl,_⟩:=Nk7.mp (Ncx h);have:=hS s hs;unfold RA at this;unfold X7 V3;simp only;omega
theorem gather_ok (hS:∀s∈S,RA s):Wh (QZ S):=⟨fun m h=>Nnq hS h,Nij S⟩
theorem Nfj (S:List Ev):(QZ S).length<=S.length:=by
 have h1:=(WP (V6 S)).2.1.length_le;rw [(Tm Si _).length_eq] at h1;have:=Nx2 S;unfold QZ MI at *;omega
theorem N52 {l':List Mk} (h:l.Pairwise VW) (h':l'.Pairwise VW) (hm:∀m,m∈l↔m∈l'):l=l':=by
 have nd:∀{l:List Mk},l.Pairwise VW->l.Nodup:=fun h=>h.imp fun {a b} q e=>by subst e;unfold VW at q;omega
 have hp:l.Perm l':=(List.perm_ext_iff_of_nodup (nd h) (nd h')).mpr hm;exact List.Perm.eq_of_pairwise (le:=VW) (fun a b _ _ h1 h2=>by unfold VW at h1 h2;omega) h h' hp
theorem Nqy {kept:List Ev} (h:Wx e kept=some x):x∈kept/\RD x=RD e:=by
 unfold Wx at h;exact ⟨Q6 h,by simpa using Rn h⟩
theorem Nld {kept:List Ev}:Uz e kept=true↔∃x,Wx e kept=some x/\e.time-x.time<=10:=by
 unfold Uz;cases h:Wx e kept with
 | none=>simp
 | some x=>simp
theorem YN:∀(l kept twice:List Ev),((TP kept twice l).1++(TP kept twice l).2).Perm (kept++twice++l)
 | [],kept,twice=>by
   unfold TP;rw [Na];exact (List.reverse_perm _).append (List.reverse_perm _)
 | e::l,kept,twice=>by
   unfold TP;split
   ·refine (YN l _ _).trans ?_;rw [No,No,Ox];exact (List.perm_middle).symm.append_left kept
   ·refine (YN l _ _).trans ?_;rw [Ox,Ox];exact List.perm_middle.symm
theorem Mq:∀(l kept twice:List Ev),∃K T,TP kept twice l=(kept.reverse++K,twice.reverse++T)/\K.Sublist l/\T.Sublist l
 | [],kept,twice=>⟨[],[],by unfold TP;simp,.refl _,.refl _⟩
 | e::l,kept,twice=>by
   unfold TP;split
   ·obtain ⟨K,T,h1,h2,a⟩:=Mq l kept (e::twice);exact ⟨K,e::T,by rw [h1];simp,h2.trans (List.sublist_cons_self _ _),a.cons_cons e⟩
   ·obtain ⟨K,T,h1,h2,a⟩:=Mq l (e::kept) twice;exact ⟨e::K,T,by rw [h1];simp,h2.cons_cons e,a.trans (List.sublist_cons_self _ _)⟩
def Yz (l:List Ev):Prop:=l.Pairwise fun x y=>x.time<=y.time
theorem Ner {l:List Ev} (h:TJ QQ l):Yz l:=h.imp fun {a b} q=>by
 unfold QQ RX at q;by_cases h1:a.time<b.time
 ·omega
 rw [Ng h1] at q;by_cases h2:b.time<a.time
 ·rw [Nl h2] at q;omega
 ·omega
theorem Ng3 (M:List Mk) (S:List Ev):TJ QQ (RP M S):=UH ZE _
theorem Yj:x∈RP M S↔∃s∈S,{ s with time:=TL M s }=x:=by
 unfold RP;rw [(Tm QQ _).mem_iff,List.mem_map]
theorem N2w {D w k:Int} (a:0<w) (h1:0<=k) (h2:k<=w):min 0 D<=D*k / w/\D*k / w<=max 0 D:=by
 rcases (by omega:D<0\/0<=D) with h | h
 ·rw [Int.min_eq_right (by omega),Int.max_eq_left (by omega)];constructor
  ·exact Int.le_ediv_of_mul_le a (Int.mul_le_mul_of_nonpos_left (by omega) h2)
  ·refine Int.ediv_le_of_le_mul a ?_;rw [Int.zero_mul];exact Int.mul_nonpos_of_nonpos_of_nonneg (by omega) h1
 ·rw [Int.min_eq_left (by omega),Int.max_eq_right (by omega)];exact ⟨Int.ediv_nonneg (Int.mul_nonneg h h1) (by omega),Int.ediv_le_of_le_mul a (Int.mul_le_mul_of_nonneg_left h2 h)⟩
def Tp (t:Int) (l:List Mk):List Mk:=l.filter fun m=>decide (m.at'<=t)
def Sd (t:Int) (l:List Mk):List Mk:=l.filter fun m=>decide (t<m.at')
def Njo (t:Int) (last:Mk) (a b:Option Mk):Int:=match a,b with
 | none,none=>last.off
 | none,some b=>if last=SE then b.off else last.off+(b.off-last.off)*(t-last.at') / (b.at'-last.at')
 | some a,none=>a.off
 | some a,some b=>a.off+(b.off-a.off)*(t-a.at') / (b.at'-a.at')
def N4p (l:List Mk):Prop:=l.Pairwise fun a b=>a.at'<b.at'
theorem Nhz {t:Int}:∀(l:List Mk) (last:Mk),N4p l->(∀m∈l,m≠SE)->(last=SE\/last.at'<t)->Xv t last l=Njo t last (Tp t l).getLast? (Sd t l).head?
 | [],last,_,_,_=>rfl
 | m::l,last,hl,hz,h=>by
   obtain ⟨d,f⟩:=List.pairwise_cons.mp hl;have c:=fun x hx=>hz x (Nr _ hx)
   unfold Xv;by_cases h1:t > m.at'
   ·rw [Nl h1,Nhz l m f c (.inr h1)];have e1:Tp t (m::l)=m::Tp t l:=by unfold Tp;rw [Ou (by simp;omega)]
    have e2:Sd t (m::l)=Sd t l:=by unfold Sd;rw [Ov (by simp;omega)]
    rw [e1,e2,List.getLast?_cons];cases (Tp t l).getLast? with
    | none=>cases (Sd t l).head?<;>simp [Njo,hz m Nu]
    | some a=>cases (Sd t l).head?<;>simp [Njo]
   ·rw [Ng h1];by_cases h2:m.at'=t
    ·have e0:Tp t l=[]:=by
      unfold Tp;rw [List.filter_eq_nil_iff];intro x hx;have:=d x hx;simp;omega
     have e1:Tp t (m::l)=[m]:=by
      have:Tp t (m::l)=m::Tp t l:=by unfold Tp;rw [Ou (by simp;omega)]
      rw [this,e0]
     have e2:Sd t (m::l)=Sd t l:=by unfold Sd;rw [Ov (by simp;omega)]
     have ev:Njo t last [m].getLast? (Sd t l).head? = m.off:=by
      cases (Sd t l).head? with
      | none=>rfl
      | some b=>simp only [List.getLast?_singleton,Njo];rw [h2,Int.sub_self,Int.mul_zero,Int.zero_ediv,Int.add_zero]
     rw [e1,e2,ev];split
     ·rfl
     ·rename_i hn;have e:last.at'<t:=h.resolve_left hn;rw [h2,Int.mul_ediv_cancel _ (by omega)];omega
    ·have e1:Tp t (m::l)=[]:=by
      unfold Tp;rw [List.filter_eq_nil_iff];intro x hx;rcases Ns.mp hx with rfl | hx
      ·simp;omega
      ·have:=d x hx;simp;omega
     have e2:Sd t (m::l)=m::Sd t l:=by unfold Sd;rw [Ou (by simp;omega)]
     rw [e1,e2];rfl
theorem Nqb {sc:Int} (h:M.Pairwise VW):N4p (ofN M sc):=by
 unfold N4p ofN;have h2:=h.filter (fun m=>m.scanner == sc);refine List.Pairwise.imp_of_mem ?_ h2;intro a b c d q;have e1:a.scanner=sc:=by simpa using (O0.mp c).2
 have e2:b.scanner=sc:=by simpa using (O0.mp d).2
 unfold VW at q;omega
theorem Nzl (h:Wh M) (sc t:Int):XW M sc t=Njo t SE (Tp t (ofN M sc)).getLast? (Sd t (ofN M sc)).head?:=by
 refine Nhz _ _ (Nqb h.2) (fun m hm hc=>?_) (.inl rfl);have:=h.1 m (O0.mp hm).1;subst hc;have a:SE.scanner=0:=rfl;unfold X7 at this;omega
theorem Ncj {t B:Int}:∀(l:List Mk) (last:Mk),N4p l->(∀m∈l,-B<=m.off/\m.off<=B)->-B<=last.off->last.off<=B->(∀m∈l,last=SE\/last.at'<m.at')->(last=SE\/last.at'<t)->-B<=Xv t last l/\Xv t last l<=B
 | [],last,_,_,h1,h2,_,_=>⟨h1,h2⟩
 | m::l,last,hl,hb,h1,h2,h3,h4=>by
   obtain ⟨d,e⟩:=List.pairwise_cons.mp hl;have hm:=hb m Nu;unfold Xv;split
   ·rename_i c;exact Ncj l m e (fun x a=>hb x (Nr _ a)) hm.1 hm.2 (fun x a=>.inr (d x a)) (.inr c)
   split
   ·exact hm
   ·rename_i f b;have e1:=h4.resolve_left b;have:=N2w (D:=m.off-last.off) (w:=m.at'-last.at') (k:=t-last.at') (by omega) (by omega) (by omega);omega
structure AtOnce (S:List Ev) (c:Int->Int) (t:Ev->Int):Prop where
 at_:∀s∈S,s.at'=t s-c s.scanner
 late:∀s∈S,t s<=s.seen
 once:∀s∈S,∃x∈S,SC x=SC s/\x.seen=t x
def VJ (S:List Ev) (s:Ev):Bool:=S.all fun x=>!(decide (SC x=SC s)&&decide (RG (V3 x) (V3 s)))
def Xa (m:Mk):List Mk->List Mk
 | []=>[m]
 | y::l=>if VW y m then y::Xa m l else if Rs y m then (if m.off<y.off then { y with off:=m.off } else y)::l else m::y::l
def Nen (S:List Ev):List Mk:=(S.filter (VJ S)).foldl (fun out s=>Xa (V3 s) out) []
theorem Ntf {m:Mk}:∀{l:List Mk},l.Pairwise VW->(Xa m l).Pairwise VW/\∀x∈Xa m l,Rs x m\/∃y∈l,Rs x y
 | [],_=>by
   unfold Xa;exact ⟨List.pairwise_singleton _ _,fun x hx=>by rw [Nq] at hx;subst hx;exact .inl ⟨rfl,rfl⟩⟩
 | y::l,h=>by
   obtain ⟨h1,h2⟩:=List.pairwise_cons.mp h;obtain ⟨g,e⟩:=Ntf (m:=m) h2;unfold Xa;split
   ·rename_i c;refine ⟨List.pairwise_cons.mpr ⟨fun x hx=>?_,g⟩,fun x hx=>?_⟩
    ·rcases e x hx with q | ⟨z,a,q⟩
     ·exact Nmy c q
     ·exact Nmy (h1 z a) q
    ·rcases Ns.mp hx with rfl | hx
     ·exact .inr ⟨x,Nu,rfl,rfl⟩
     ·rcases e x hx with q | ⟨z,a,q⟩
      ·exact .inl q
      ·exact .inr ⟨z,Nr _ a,q⟩
   ·split
    ·rename_i hn hs;have f:∀z,VW y z->VW (if m.off<y.off then { y with off:=m.off } else y) z:=by
      intro z a;split
      ·exact a
      ·exact a
     have d:Rs (if m.off<y.off then { y with off:=m.off } else y) y:=by split<;>exact ⟨rfl,rfl⟩
     refine ⟨List.pairwise_cons.mpr ⟨fun x hx=>f x (h1 x hx),h2⟩,fun x hx=>?_⟩;rcases Ns.mp hx with rfl | hx
     ·exact .inr ⟨y,Nu,d⟩
     ·exact .inr ⟨x,Nr _ hx,rfl,rfl⟩
    ·rename_i hn hs;have b:VW m y:=by unfold VW Rs at *;omega
     refine ⟨List.pairwise_cons.mpr ⟨fun x hx=>?_,h⟩,fun x hx=>?_⟩
     ·rcases Ns.mp hx with rfl | hx
      ·exact b
      ·exact Nh6 b (h1 x hx)
     ·rcases Ns.mp hx with rfl | hx
      ·exact .inl ⟨rfl,rfl⟩
      ·exact .inr ⟨x,hx,rfl,rfl⟩
structure RefOf (V:List Mk) (out:List Mk):Prop where
 lt:out.Pairwise VW
 from':∀m∈out,m∈V
 all:∀m∈V,∃y∈out,Rs m y/\y.off<=m.off
theorem Nte {m:Mk}:∀{l:List Mk},(∀x∈Xa m l,x=m\/x∈l)/\∀x,x=m\/x∈l->∃y∈Xa m l,Rs x y/\y.off<=x.off
 | []=>by
   unfold Xa;refine ⟨fun x hx=>.inl (by simpa using hx),fun x hx=>?_⟩;rcases hx with rfl | hx
   ·exact ⟨x,by simp,⟨rfl,rfl⟩,Ow _⟩
   ·cases hx
 | y::l=>by
   obtain ⟨f,g⟩:=Nte (m:=m) (l:=l);unfold Xa;split
   ·refine ⟨fun x hx=>?_,fun x hx=>?_⟩
    ·rcases Ns.mp hx with rfl | hx
     ·exact .inr Nu
     ·rcases f x hx with q | q
      ·exact .inl q
      ·exact .inr (Nr _ q)
    ·have out:x=m\/x∈l->∃z∈y::Xa m l,Rs x z/\z.off<=x.off:=fun q=>by
      obtain ⟨z,e,w⟩:=g x q;exact ⟨z,Nr _ e,w⟩
     rcases hx with rfl | hx
     ·exact out (.inl rfl)
     ·rcases Ns.mp hx with rfl | hx
      ·exact ⟨x,Nu,⟨rfl,rfl⟩,Ow _⟩
      ·exact out (.inr hx)
   ·split
    ·rename_i hn hs;refine ⟨fun x hx=>?_,fun x hx=>?_⟩
     ·rcases Ns.mp hx with h | hx
      ·split at h
       ·left;subst h;obtain ⟨a,b,c⟩:=m;unfold Rs at hs;simp only at hs⊢;rw [hs.1,hs.2]
       ·right;rw [h];exact Nu
      ·exact .inr (Nr _ hx)
     ·have hd:Rs m (if m.off<y.off then { y with off:=m.off } else y)/\(if m.off<y.off then { y with off:=m.off } else y).off<=m.off/\Rs y (if m.off<y.off then { y with off:=m.off } else y)/\(if m.off<y.off then { y with off:=m.off } else y).off<=y.off:=by
       unfold Rs at hs⊢;split
       ·rename_i d;exact ⟨⟨hs.1.symm,hs.2.symm⟩,Ow _,⟨rfl,rfl⟩,Int.le_of_lt d⟩
       ·exact ⟨⟨hs.1.symm,hs.2.symm⟩,by omega,⟨rfl,rfl⟩,Ow _⟩
      rcases hx with rfl | hx
      ·exact ⟨_,Nu,hd.1,hd.2.1⟩
      ·rcases Ns.mp hx with rfl | hx
       ·exact ⟨_,Nu,hd.2.2.1,hd.2.2.2⟩
       ·exact ⟨x,Nr _ hx,⟨rfl,rfl⟩,Ow _⟩
    ·refine ⟨fun x hx=>?_,fun x hx=>?_⟩
     ·rcases Ns.mp hx with rfl | hx
      ·exact .inl rfl
      ·exact .inr hx
     ·rcases hx with rfl | hx
      ·exact ⟨x,Nu,⟨rfl,rfl⟩,Ow _⟩
      ·exact ⟨x,Nr _ hx,⟨rfl,rfl⟩,Ow _⟩
theorem RefOf.add (h:RefOf V out) (m:Mk):RefOf (V++[m]) (Xa m out):=by
 obtain ⟨d,a⟩:=Nte (m:=m) (l:=out);refine ⟨(Ntf h.lt).1,fun x hx=>?_,fun x hx=>?_⟩
 ·rcases d x hx with rfl | q
  ·simp
  ·exact O9 _ (h.from' x q)
 ·rcases Ok.mp hx with hx | hx
  ·obtain ⟨y,b,e,f⟩:=h.all x hx;obtain ⟨z,c,g,i⟩:=a y (.inr b);exact ⟨z,c,by unfold Rs at *;omega,by omega⟩
  ·rw [Nq] at hx;subst hx;exact a x (.inl rfl)
theorem Ncy:∀(L:List Ev) (V out:List Mk),RefOf V out->RefOf (V++L.map V3) (L.foldl (fun out s=>Xa (V3 s) out) out)
 | [],V,out,h=>by simpa using h
 | s::L,V,out,h=>by
   have:=Ncy L _ _ (h.add (V3 s));rw [No] at this;exact this
theorem Npv {n out':List Mk} (h:RefOf V out) (h':RefOf n out') (hm:∀m,m∈V↔m∈n):out=out':=by
 have g:∀{V n out out':List Mk},RefOf V out->RefOf n out'->(∀m,m∈V↔m∈n)->∀m∈out,m∈out':=by
  intro V n out out' h h' hm m k;obtain ⟨y,r,o,v⟩:=h'.all m ((hm m).mp (h.from' m k));obtain ⟨z,t,w,u⟩:=h.all y ((hm y).mpr (h'.from' y r));have s:Rs m z:=by unfold Rs at *;omega
  have p:m=z:=by
   rcases List.mem_iff_getElem.mp k with ⟨i,hi,rfl⟩
   rcases List.mem_iff_getElem.mp t with ⟨j,q,rfl⟩
   rcases Nat.lt_trichotomy i j with hij | hij | hij
   ·have:=Pc.mp h.lt i j hi q hij;unfold VW Rs at *;omega
   ·subst hij;rfl
   ·have:=Pc.mp h.lt j i q hi hij;unfold VW Rs at *;omega
  have l:m.off=y.off:=by rw [<-p] at u;omega
  have:m=y:=by
   obtain ⟨a,b,c⟩:=m;obtain ⟨d,e,f⟩:=y;unfold Rs at o;simp only at o l;rw [o.1,o.2,l]
  rw [this];exact r
 exact N52 h.lt h'.lt fun m=>⟨g h h' hm m,g h' h (fun m=>(hm m).symm) m⟩
theorem Nkf (S:List Ev):RefOf (MI S) (QZ S):=⟨Nij S,fun m h=>Ncx h,fun m h=>Nnp h⟩
theorem XZ {s:Ev}:VJ S s=true↔∀x∈S,SC x=SC s->¬RG (V3 x) (V3 s):=by
 unfold VJ;rw [N7];refine forall_congr' fun x=>forall_congr' fun a=>?_
 by_cases h1:SC x=SC s
 ·by_cases h2:RG (V3 x) (V3 s)
  ·simp [h1,h2]
  ·simp [h1,h2]
 ·simp [h1]
theorem Nlz (S:List Ev):Nen S=QZ S:=by
 have h:=Ncy (S.filter (VJ S)) [] [] ⟨List.Pairwise.nil,fun m h=>(O8 h).elim,fun m h=>(O8 h).elim⟩;rw [Og] at h;refine Npv h (Nkf S) fun m=>?_
 rw [Nk7,List.mem_map];constructor
 ·rintro ⟨s,hs,rfl⟩;obtain ⟨h1,h2⟩:=O0.mp hs;exact ⟨s,h1,rfl,XZ.mp h2⟩
 ·rintro ⟨s,hs,rfl,a⟩;exact ⟨s,O0.mpr ⟨hs,XZ.mpr a⟩,rfl⟩
end Go.Scan



namespace Go.Net
variable {pos:Int->Nat} {b low v r a x u:Int} {S T:Int->Prop} {N n j:Nat} {bef aft:List Int}
structure Leg where
 (id frm dst dep mins cut grams days:Int)
 deriving DecidableEq,Inhabited
def NV:Int:=1051898399
def Fine (l:Leg):Prop:=1<=l.id/\l.id<=999999/\1<=l.frm/\l.frm<=999999/\1<=l.dst/\l.dst<=999999/\0<=l.dep/\l.dep<=1439/\1<=l.mins/\l.mins<=20160/\0<=l.cut/\l.cut<=10080/\0<=l.grams/\l.grams<=1000000000/\1<=l.days/\l.days<=127/\l.frm≠l.dst
instance (l:Leg):Decidable (Fine l):=by unfold Fine;infer_instance
def runs (days:Int) (d:Nat):Bool:=days.toNat / 2 ^ (d % 7) % 2 == 1
def goes (l:Leg) (d:Nat):Bool:=runs l.days d&&decide (0<=1440*(d:Int)+l.dep-l.cut)&&decide (1440*(d:Int)+l.dep+l.mins<=NV)
def VQ:Nat:=730485
theorem WO:VQ=730485:=rfl
attribute [irreducible] VQ
def Dep (l:Leg) (a:Int):Prop:=∃d:Nat,d<VQ/\goes l d=true/\a=1440*(d:Int)+l.dep
def Z7 (l:Leg) (r:Int):Option Nat:=(List.range VQ).find? fun (d:Nat)=>goes l d&&decide (r<=1440*(d:Int)+l.dep-l.cut)
def R7 (l:Leg) (r:Int):Option Int:=(Z7 l r).map fun (d:Nat)=>1440*(d:Int)+l.dep
def Ndq (l:Leg) (b:Int):Option Nat:=((List.range VQ).find? fun (d:Nat)=>goes l (VQ-1-d)&&decide (1440*((VQ-1-d:Nat):Int)+l.dep+l.mins<=b)).map fun (d:Nat)=>VQ-1-d
def Tj (l:Leg) (b:Int):Option Int:=(Ndq l b).map fun (d:Nat)=>1440*(d:Int)+l.dep
theorem find_range {p:Nat->Bool} {i:Nat}:(List.range n).find? p=some i↔p i=true/\i<n/\∀j,j<i->p j=false:=by
 rw [List.find?_range_eq_some];simp
theorem VL {p:Nat->Bool}:(List.range n).find? p=none↔∀j,j<n->p j=false:=by
 rw [List.find?_range_eq_none];simp
variable {l:Leg}
theorem Rz (h:R7 l r=some a):Dep l a/\r<=a-l.cut/\∀b,Dep l b->r<=b-l.cut->a<=b:=by
 unfold R7 Z7 at h;obtain ⟨d,hd,rfl⟩:=Nd.1 h;obtain ⟨h1,h2,f⟩:=find_range.1 hd;simp only [N2,N6] at h1;refine ⟨⟨d,h2,h1.1,rfl⟩,h1.2,fun b ⟨e,he,i,g⟩ hr=>?_⟩;subst g;by_cases c:e<d
 ·have:=f e c;simp only [i,Bool.true_and,decide_eq_false_iff_not] at this;omega
 ·omega
theorem XY (h:R7 l r=none):∀b,Dep l b->b-l.cut<r:=by
 unfold R7 Z7 at h;rw [Option.map_eq_none_iff,VL] at h;intro b ⟨e,he,a,c⟩;have:=h e he;simp only [a,Bool.true_and,decide_eq_false_iff_not] at this;omega
theorem TS (h:Tj l b=some a):Dep l a/\a+l.mins<=b/\∀c,Dep l c->c+l.mins<=b->c<=a:=by
 unfold Tj Ndq at h;obtain ⟨d,hd,rfl⟩:=Nd.1 h;obtain ⟨g,f,rfl⟩:=Nd.1 hd;obtain ⟨h1,h2,i⟩:=find_range.1 f;simp only [N2,N6] at h1;refine ⟨⟨VQ-1-g,by omega,h1.1,rfl⟩,h1.2,fun c ⟨e,he,j,hc⟩ hr=>?_⟩;subst hc;by_cases k:VQ-1-g<e
 ·have:=i (VQ-1-e) (by omega);rw [show VQ-1-(VQ-1-e)=e by omega] at this;simp only [j,Bool.true_and,decide_eq_false_iff_not] at this;omega
 ·omega
theorem Ne9 (h:Tj l b=none):∀c,Dep l c->b<c+l.mins:=by
 unfold Tj Ndq at h;rw [Option.map_eq_none_iff,Option.map_eq_none_iff,VL] at h;intro c ⟨e,he,a,hc⟩;have:=h (VQ-1-e) (by omega);rw [show VQ-1-(VQ-1-e)=e by omega] at this;simp only [a,Bool.true_and,decide_eq_false_iff_not] at this;omega
inductive Way (L:List Leg):Nat->Int->Int->Int->Int->Prop where
 | nil (p t:Int):Way L 0 p t p t
 | snoc {k:Nat} {p t m s a:Int} {l:Leg}:Way L k p t m s->l∈L->l.frm=m->Dep l a->s<=a-l.cut->Way L (k+1) p t l.dst (a+l.mins)
variable {L:List Leg}
theorem Way.later {k:Nat} {p t q:Int} (h:Way L k p t q u) (hL:∀l∈L,Fine l):t<=u:=by
 induction h with
 | nil=>omega
 | snoc h hl a hd hs ih=>have:=hL _ hl;unfold Fine at this;omega
theorem Way.early {k:Nat} {p t t' q:Int} (h:Way L k p t q u) (b:t'<=t):(k=0/\p=q/\u=t)\/Way L k p t' q u:=by
 induction h with
 | nil=>exact .inl ⟨rfl,rfl,rfl⟩
 | snoc h hl a hd hs ih=>
   rcases ih b with ⟨rfl,rfl,rfl⟩ | ih
   ·exact .inr (.snoc (.nil _ _) hl a hd (by omega))
   ·exact .inr (.snoc ih hl a hd hs)
theorem Way.mono {M:List Leg} {k:Nat} {p t q:Int} (h:Way L k p t q u) (hs:∀l∈L,l∈M):Way M k p t q u:=by
 induction h with
 | nil=>exact .nil _ _
 | snoc h hl a hd hr ih=>exact .snoc ih (hs _ hl) a hd hr
theorem Way.trans {k:Nat} {p t m s q:Int} (h:Way L k p t m s) (h2:Way L j m s q u):Way L (k+j) p t q u:=by
 induction h2 with
 | nil=>exact h
 | snoc h2 hl a hd hr ih=>exact .snoc (ih h) hl a hd hr
theorem Way.cons {k:Nat} {p t q:Int} (hl:l∈L) (b:l.frm=p) (hd:Dep l a) (hr:t<=a-l.cut) (h:Way L k l.dst (a+l.mins) q u):Way L (k+1) p t q u:=by
 have:=(Way.snoc (.nil p t) hl b hd hr).trans h
 rwa [Nx,Ro] at this
theorem Way.head {k:Nat} {p t q:Int} (h:Way L (k+1) p t q u):∃l∈L,∃a,l.frm=p/\Dep l a/\t<=a-l.cut/\Way L k l.dst (a+l.mins) q u:=by
 generalize hk:k+1=n at h
 induction h generalizing k with
 | nil=>omega
 | @snoc j p t m s a l h hl hf hd hr ih=>
   cases j with
   | zero=>
     cases h;obtain rfl:k=0:=by omega
     exact ⟨l,hl,a,hf,hd,hr,.nil _ _⟩
   | succ i=>
     obtain ⟨e,b,a',h1,h2,c,d⟩:=ih rfl;obtain rfl:k=i+1:=by omega
     exact ⟨e,b,a',h1,h2,c,.snoc d hl hf hd hr⟩
def SL (S:Int->Prop) (v:Int):Prop:=(v=-1/\∀u,¬S u)\/(S v/\∀u,S u->v<=u)
theorem SL.uniq {w:Int} (h:SL S v) (h':SL S w):v=w:=by
 rcases h with ⟨h1,h2⟩ | ⟨h1,h2⟩<;>rcases h' with ⟨a,b⟩ | ⟨a,b⟩
 ·omega
 ·exact absurd a (h2 _)
 ·exact absurd h1 (b _)
 ·have:=h2 _ a;have:=b _ h1;omega
theorem SL.congr (h:SL S v) (e:∀u,S u↔T u):SL T v:=by
 rcases h with ⟨h1,h2⟩ | ⟨h1,h2⟩
 ·exact .inl ⟨h1,fun u a=>h2 u ((e u).2 a)⟩
 ·exact .inr ⟨(e v).1 h1,fun u a=>h2 u ((e u).2 a)⟩
theorem SL.mem (h:SL S v) (a:0<=v):S v:=by
 rcases h with ⟨h1,h2⟩ | ⟨h1,h2⟩
 ·omega
 ·exact h1
theorem SL.none (h:SL S v) (a:∀u,S u->0<=u) (b:v<0):∀u,¬S u:=by
 rcases h with ⟨h1,h2⟩ | ⟨h1,h2⟩
 ·exact h2
 ·have:=a _ h1;omega
theorem SL.le (h:SL S v) (a:S u):v<=u:=by
 rcases h with ⟨h1,h2⟩ | ⟨h1,h2⟩
 ·exact absurd a (h2 _)
 ·exact h2 _ a
theorem SL.one (h:SL S v) (a:∀u,S u->0<=u) (b:0<=x):SL (fun u=>S u\/u=x) (if v<0\/x<v then x else v):=by
 by_cases hc:v<0\/x<v
 ·rw [Nl hc];refine .inr ⟨.inr rfl,fun u hu=>?_⟩;rcases hu with hu | hu
  ·rcases hc with hc | hc
   ·exact absurd hu (h.none a hc u)
   ·have:=h.le hu;omega
  ·omega
 ·rw [Ng hc];have:=h.mem (by omega);refine .inr ⟨.inl this,fun u hu=>?_⟩;rcases hu with hu | hu
  ·exact h.le hu
  ·omega
def Vg (pos:Int->Nat) (lim:Int) (bef aft:List Int) (l:Leg):List Int:=
 if bef.getD (pos l.frm) (-1)<0 then aft else
 match R7 l (bef.getD (pos l.frm) (-1)) with
 | some a=>if a+l.mins<=lim/\(aft.getD (pos l.dst) (-1)<0\/a+l.mins<aft.getD (pos l.dst) (-1)) then aft.set (pos l.dst) (a+l.mins) else aft
 | none=>aft
def MN (pos:Int->Nat) (lim:Int) (L:List Leg) (bef:List Int):List Int:=L.foldl (Vg pos lim bef) bef
theorem Nd0 {lim:Int}:(Vg pos lim bef aft l).length=aft.length:=by
 unfold Vg;split
 ·rfl
 ·split
  ·split
   ·simp
   ·rfl
  ·rfl
theorem Nb1 {pos:Int->Nat} {lim:Int} {bef:List Int}:∀{L:List Leg} {aft:List Int},(L.foldl (Vg pos lim bef) aft).length=aft.length
 | [],_=>rfl
 | l::L,aft=>by rw [O1,Nb1,Nd0]
theorem Nt7 {lim:Int}:(MN pos lim L bef).length=bef.length:=Nb1
def Nk2 (pos:Int->Nat) (lim:Int) (bef:List Int) (l:Leg) (q:Nat) (u:Int):Prop:=
 pos l.dst=q/\0<=bef.getD (pos l.frm) (-1)/\∃a,R7 l (bef.getD (pos l.frm) (-1))=some a/\u=a+l.mins/\u<=lim
theorem Dep.nonneg (h:Dep l a) (hl:Fine l):0<=a:=by
 obtain ⟨d,_,_,rfl⟩:=h;unfold Fine at hl;omega
theorem Nk2.nonneg {lim:Int} {q:Nat} (h:Nk2 pos lim bef l q u) (hl:Fine l):0<=u:=by
 obtain ⟨_,_,a,h1,h2,_⟩:=h;have:=(Rz h1).1.nonneg hl;unfold Fine at hl;omega
theorem X0 {L:List Int} {i:Nat} {d:Int} (hi:i<L.length):(L.set i x).getD j d=if i=j then x else L.getD j d:=by
 rw [Nb,Ob];by_cases h:i=j
 ·simp [h,show j<L.length by omega]
 ·simp [h,Nb]
theorem Nx5 {lim:Int} {q:Nat} (hl:Fine l) (hp:pos l.dst<aft.length) (k:∀u,S u->0<=u) (h:SL S (aft.getD q (-1))) :
  SL (fun u=>S u\/Nk2 pos lim bef l q u) ((Vg pos lim bef aft l).getD q (-1)):=by
 unfold Vg;by_cases hs:bef.getD (pos l.frm) (-1)<0
 ·rw [Nl hs];exact h.congr fun u=>⟨.inl,fun c=>c.elim id fun d=>absurd d.2.1 (by omega)⟩
 rw [Ng hs];cases hn:R7 l (bef.getD (pos l.frm) (-1)) with
 | none=>
   simp only;exact h.congr fun u=>⟨.inl,fun c=>c.elim id fun ⟨_,_,a,j,_⟩=>by rw [hn] at j;cases j⟩
 | some a=>
   simp only;have i:0<=a+l.mins:=by have:=(Rz hn).1.nonneg hl;unfold Fine at hl;omega
   by_cases f:a+l.mins<=lim
   ·by_cases g:pos l.dst=q
    ·have e:((if a+l.mins<=lim/\(aft.getD (pos l.dst) (-1)<0\/a+l.mins<aft.getD (pos l.dst) (-1)) then aft.set (pos l.dst) (a+l.mins) else aft).getD q (-1))=if aft.getD q (-1)<0\/a+l.mins<aft.getD q (-1) then a+l.mins else aft.getD q (-1):=by
      subst g;by_cases hc:aft.getD (pos l.dst) (-1)<0\/a+l.mins<aft.getD (pos l.dst) (-1)
      ·rw [Nl ⟨f,hc⟩,Nl hc,X0 hp,Nl rfl]
      ·rw [Ng (fun h=>hc h.2),Ng hc]
     rw [e];refine (h.one k i).congr fun u=>⟨fun c=>c.elim .inl fun c=>.inr ⟨g,by omega,a,hn,c,by omega⟩,fun c=>c.elim .inl fun ⟨_,_,b,d,c,_⟩=>?_⟩
     rw [hn] at d;cases d;exact .inr c
    ·have e:((if a+l.mins<=lim/\(aft.getD (pos l.dst) (-1)<0\/a+l.mins<aft.getD (pos l.dst) (-1)) then aft.set (pos l.dst) (a+l.mins) else aft).getD q (-1))=aft.getD q (-1):=by
      split
      ·rw [X0 hp,Ng g]
      ·rfl
     rw [e];exact h.congr fun u=>⟨.inl,fun c=>c.elim id fun d=>absurd d.1 g⟩
   ·rw [Ng (fun h=>f h.1)];refine h.congr fun u=>⟨.inl,fun c=>c.elim id fun ⟨_,_,b,d,c,hl⟩=>?_⟩
    rw [hn] at d;cases d;omega
theorem Nim {pos:Int->Nat} {lim:Int} {bef:List Int} {q:Nat}:∀{L:List Leg} {aft:List Int} {S:Int->Prop},(∀l∈L,Fine l/\pos l.dst<aft.length)->(∀u,S u->0<=u)->SL S (aft.getD q (-1))->
  SL (fun u=>S u\/∃l∈L,Nk2 pos lim bef l q u) ((L.foldl (Vg pos lim bef) aft).getD q (-1))
 | [],aft,S,hL,h0,h=>h.congr fun u=>⟨.inl,fun hu=>hu.elim id fun ⟨l,hl,_⟩=>by cases hl⟩
 | l::L,aft,S,hL,h0,h=>by
   obtain ⟨h1,h2⟩:=hL l (Nu ..);rw [O1];refine (Nim (L:=L) (fun x hx=>?_) (fun u hu=>?_) (Nx5 (lim:=lim) (bef:=bef) h1 h2 h0 h)).congr fun u=>?_
   ·rw [Nd0];exact hL x (Nr _ hx)
   ·rcases hu with hu | hu
    ·exact h0 u hu
    ·exact hu.nonneg h1
   ·constructor
    ·rintro ((h | h) | ⟨x,hx,h⟩)
     ·exact .inl h
     ·exact .inr ⟨l,Nu ..,h⟩
     ·exact .inr ⟨x,Nr _ hx,h⟩
    ·rintro (h | ⟨x,hx,h⟩)
     ·exact .inl (.inl h)
     ·rcases Ns.1 hx with rfl | hx
      ·exact .inl (.inr h)
      ·exact .inr ⟨x,hx,h⟩
theorem SL.dom (h:SL S v) (h1:∀u,S u->T u) (h2:∀u,T u->∃w,w<=u/\S w):SL T v:=by
 rcases h with ⟨a,b⟩ | ⟨a,b⟩
 ·exact .inl ⟨a,fun u c=>by obtain ⟨w,_,d⟩:=h2 u c;exact b w d⟩
 ·exact .inr ⟨h1 _ a,fun u c=>by obtain ⟨w,e,d⟩:=h2 u c;have:=b w d;omega⟩
structure NetOk (N:Nat) (P:List Int) (L:List Leg) (pos:Int->Nat):Prop where
 fine:∀l∈L,Fine l
 frm:∀l∈L,l.frm∈P
 dst:∀l∈L,l.dst∈P
 inj:∀a∈P,∀b∈P,pos a=pos b->a=b
 lt:∀a∈P,pos a<N
def YC (N i:Nat) (t:Int):List Int:=(List.replicate N (-1)).set i t
theorem Nex {i:Nat} {t:Int}:(YC N i t).length=N:=by simp [YC]
theorem Ney {i:Nat} {t:Int} (hi:i<N):(YC N i t).getD j (-1)=if i=j then t else -1:=by
 unfold YC;rw [X0 (by simpa using hi)];split
 ·rfl
 ·rw [Nb,P3];split<;>rfl
def QM (N:Nat) (pos:Int->Nat) (lim:Int) (L:List Leg) (p ready:Int):Nat->List Int
 | 0=>YC N (pos p) ready
 | k+1=>MN pos lim L (QM N pos lim L p ready k)
theorem RZ {N:Nat} {pos:Int->Nat} {lim:Int} {L:List Leg} {p ready:Int}:∀{k:Nat},(QM N pos lim L p ready k).length=N
 | 0=>Nex
 | k+1=>by rw [QM,Nt7,RZ]
theorem Uu {N:Nat} {P:List Int} {L:List Leg} {pos:Int->Nat} {lim p ready:Int} (hn:NetOk N P L pos) (hp:p∈P) (hr:0<=ready) (d:ready<=lim):∀(k:Nat) (q:Int),q∈P->
  SL (fun u=>(∃j,j<=k/\Way L j p ready q u)/\u<=lim) ((QM N pos lim L p ready k).getD (pos q) (-1))
 | 0,q,hq=>by
   rw [QM,Ney (hn.lt p hp)];by_cases h:pos p=pos q
   ·rw [Nl h];have:=hn.inj p hp q hq h;subst this;refine .inr ⟨⟨⟨0,Nf _,.nil _ _⟩,d⟩,fun u ⟨⟨j,n,c⟩,_⟩=>c.later hn.fine⟩
   ·rw [Ng h];refine .inl ⟨rfl,fun u ⟨⟨j,n,c⟩,_⟩=>?_⟩;obtain rfl:j=0:=by omega
    cases c;exact h rfl
 | k+1,q,hq=>by
   have ih:=Uu hn hp hr d k;have z:∀q u,((∃j,j<=k/\Way L j p ready q u)/\u<=lim)->0<=u:=fun q u ⟨⟨j,_,c⟩,_⟩=>by have:=c.later hn.fine;omega
   rw [QM,MN];refine (Nim (L:=L) (fun l hl=>⟨hn.fine l hl,by rw [RZ];exact hn.lt _ (hn.dst l hl)⟩) (z q) (ih q hq)).dom (fun u r=>?_) (fun u r=>?_)
   ·rcases r with ⟨⟨j,n,c⟩,hl⟩ | ⟨l,hl,hd,hs,a,A,rfl,e⟩
    ·exact ⟨⟨j,by omega,c⟩,hl⟩
    ·obtain ⟨⟨j,n,c⟩,i⟩:=(ih l.frm (hn.frm l hl)).mem hs;obtain ⟨w,x,y⟩:=Rz A;have:=hn.inj _ (hn.dst l hl) q hq hd;subst this;exact ⟨⟨j+1,by omega,.snoc c hl rfl w x⟩,e⟩
   ·obtain ⟨⟨j,n,c⟩,v⟩:=r;by_cases f:j<=k
    ·exact ⟨u,Ow _,.inl ⟨⟨j,f,c⟩,v⟩⟩
    ·cases c with
     | nil=>exact absurd (Np _) f
     | @snoc j' p t m s a l c hl hf hd hs=>
       subst hf;have o:=hn.fine l hl;have i:s<=lim:=by unfold Fine at o;omega
       have hS:(∃j,j<=k/\Way L j p ready l.frm s)/\s<=lim:=⟨⟨j',by omega,c⟩,i⟩
       have B:=(ih l.frm (hn.frm l hl)).le hS;have g:0<=(QM N pos lim L p ready k).getD (pos l.frm) (-1):=by
        apply Oe;intro hc;exact (ih l.frm (hn.frm l hl)).none (z _) (by omega) s hS
       cases hnx:R7 l ((QM N pos lim L p ready k).getD (pos l.frm) (-1)) with
       | none=>have:=XY hnx a hd;omega
       | some b=>
         obtain ⟨w,x,y⟩:=Rz hnx;have:=y a hd (by omega);exact ⟨b+l.mins,by omega,.inr ⟨l,hl,rfl,g,b,hnx,rfl,by omega⟩⟩
theorem Ngd {N:Nat} {pos:Int->Nat} {lim:Int} {L:List Leg} {p ready:Int} {k:Nat} (h:QM N pos lim L p ready (k+1)=QM N pos lim L p ready k):∀j,QM N pos lim L p ready (k+j)=QM N pos lim L p ready k
 | 0=>rfl
 | j+1=>by rw [<-Pq,QM,Ngd h j];exact h
theorem Nge {P:List Int} {lim p ready:Int} (hn:NetOk N P L pos) (hp:p∈P) (hr:0<=ready) (a:ready<=lim) {k:Nat} (h:QM N pos lim L p ready (k+1)=QM N pos lim L p ready k) (q:Int) (e:q∈P) :
  SL (fun u=>(∃j,Way L j p ready q u)/\u<=lim) ((QM N pos lim L p ready k).getD (pos q) (-1)):=by
 refine (Uu hn hp hr a k q e).dom (fun u ⟨⟨j,_,b⟩,hl⟩=>⟨⟨j,b⟩,hl⟩) (fun u ⟨⟨j,b⟩,hl⟩=>?_);have hm:=Uu hn hp hr a (k+j) q e;rw [Ngd h] at hm;have d:=hm.le ⟨⟨j,by omega,b⟩,hl⟩;have hk:=Uu hn hp hr a k q e;have g:∀u,((∃f,f<=k+j/\Way L f p ready q u)/\u<=lim)->0<=u:=fun u ⟨⟨j,_,b⟩,_⟩=>by have:=b.later hn.fine;omega
 have c:0<=(QM N pos lim L p ready k).getD (pos q) (-1):=by
  apply Oe;intro hc;exact hm.none g (by omega) u ⟨⟨j,by omega,b⟩,hl⟩
 exact ⟨_,d,hk.mem c⟩
def Nrh (ready lim t:Int):Nat:=if t<0 then (lim-ready).toNat+1 else (t-ready).toNat
def muA (ready lim:Int) (T:List Int):Nat:=(T.map (Nrh ready lim)).sum
def WG (ready lim:Int) (T:List Int):Prop:=∀t∈T,t=-1\/ready<=t/\t<=lim
theorem Nz8 {ready lim:Int}:∀{T:List Int},WG ready lim T->muA ready lim T<=T.length*((lim-ready).toNat+1)
 | [],_=>by simp [muA]
 | t::T,h=>by
   have ih:=Nz8 (T:=T) fun x a=>h x (Nr _ a)
   have h1:=h t (Nu ..);unfold muA at ih⊢;simp only [Oj,List.sum_cons,Nm,Pw];have:Nrh ready lim t<=(lim-ready).toNat+1:=by unfold Nrh;split<;>omega
   omega
theorem Nz7 {f:Int->Nat}:∀{T:List Int} {i:Nat} {x:Int} (hi:i<T.length),((T.set i x).map f).sum+f (T.getD i (-1))=(T.map f).sum+f x
 | t::T,0,x,_=>by simp;omega
 | t::T,i+1,x,hi=>by
   have:=Nz7 (f:=f) (T:=T) (i:=i) (x:=x) (by simpa using hi);simp only [Qz,Oj,List.sum_cons,List.getD_cons_succ];omega
theorem N4q {ready lim:Int} (g:WG ready lim bef) (b:WG ready lim aft) (hl:Fine l) (hd:pos l.dst<aft.length) (hr:0<=ready) :
  WG ready lim (Vg pos lim bef aft l)/\(Vg pos lim bef aft l=aft\/muA ready lim (Vg pos lim bef aft l)<muA ready lim aft):=by
 unfold Vg;by_cases hs:bef.getD (pos l.frm) (-1)<0
 ·rw [Nl hs];exact ⟨b,.inl rfl⟩
 rw [Ng hs];cases hn:R7 l (bef.getD (pos l.frm) (-1)) with
 | none=>exact ⟨b,.inl rfl⟩
 | some a=>
   simp only;split
   case isFalse=>exact ⟨b,.inl rfl⟩
   rename_i hc;obtain ⟨m,n,o⟩:=Rz hn;have i:ready<=bef.getD (pos l.frm) (-1):=by
    by_cases h:pos l.frm<bef.length
    ·have e:bef.getD (pos l.frm) (-1)=bef[pos l.frm]:=by rw [Nb,Ni h];rfl
     have:=g _ (Qa h);rw [e] at hs⊢;omega
    ·rw [Nb,N0 (by omega)] at hs;exact absurd (by decide) hs
   have c:=hl;unfold Fine at c;have j:ready<=a+l.mins/\a+l.mins<=lim:=⟨by omega,hc.1⟩
   have d:aft.getD (pos l.dst) (-1)=-1\/ready<=aft.getD (pos l.dst) (-1)/\aft.getD (pos l.dst) (-1)<=lim:=by
    have e:aft.getD (pos l.dst) (-1)=aft[pos l.dst]:=by rw [Nb,Ni hd];rfl
    rw [e];exact b _ (Qa hd)
   refine ⟨fun t k=>?_,.inr ?_⟩
   ·rcases Qs k with h | h
    ·exact b t h
    ·exact .inr (by omega)
   ·have:=Nz7 (f:=Nrh ready lim) (x:=a+l.mins) hd;unfold muA;have e1:Nrh ready lim (a+l.mins)<Nrh ready lim (aft.getD (pos l.dst) (-1)):=by
     unfold Nrh;rw [Ng (by omega)];split<;>omega
    omega
theorem Nnr {pos:Int->Nat} {ready lim:Int} {bef:List Int} (a:WG ready lim bef) (hr:0<=ready):∀{L:List Leg} {aft:List Int},(∀l∈L,Fine l/\pos l.dst<aft.length)->WG ready lim aft->
  WG ready lim (L.foldl (Vg pos lim bef) aft)/\(L.foldl (Vg pos lim bef) aft=aft\/muA ready lim (L.foldl (Vg pos lim bef) aft)<muA ready lim aft)
 | [],aft,hL,ha=>⟨ha,.inl rfl⟩
 | l::L,aft,hL,ha=>by
   obtain ⟨h1,h2⟩:=hL l (Nu ..);obtain ⟨b,g2⟩:=N4q (l:=l) a ha h1 h2 hr;obtain ⟨k1,k2⟩:=Nnr a hr (L:=L) (aft:=Vg pos lim bef aft l) (fun x c=>by rw [Nd0];exact hL x (Nr _ c)) b;rw [O1];refine ⟨k1, ?_⟩;rcases k2 with k2 | k2
   ·rw [k2];exact g2
   ·rcases g2 with g2 | g2
    ·rw [g2] at k2⊢;exact .inr k2
    ·exact .inr (by omega)
theorem Nd7 {ready lim:Int} (a:WG ready lim bef) (hr:0<=ready) (hL:∀l∈L,Fine l/\pos l.dst<bef.length) :
  WG ready lim (MN pos lim L bef)/\(MN pos lim L bef=bef\/muA ready lim (MN pos lim L bef)<muA ready lim bef):=Nnr a hr hL a
def Vd (L:List Leg) (p ready q v:Int):Prop:=SL (fun u=>(∃j,Way L j p ready q u)/\u<=ready+86400) v
theorem Vd.ge {p ready q:Int} (h:Vd L p ready q v) (hL:∀l∈L,Fine l) (a:0<=v):ready<=v/\v<=ready+86400:=by
 obtain ⟨⟨j,b⟩,hl⟩:=h.mem a;exact ⟨b.later hL,hl⟩
def UD (S:Int->Prop) (v:Int):Prop:=(v=-1/\∀u,¬S u)\/(S v/\∀u,S u->u<=v)
theorem UD.congr (h:UD S v) (e:∀u,S u↔T u):UD T v:=by
 rcases h with ⟨h1,h2⟩ | ⟨h1,h2⟩
 ·exact .inl ⟨h1,fun u a=>h2 u ((e u).2 a)⟩
 ·exact .inr ⟨(e v).1 h1,fun u a=>h2 u ((e u).2 a)⟩
theorem UD.mem (h:UD S v) (a:0<=v):S v:=by
 rcases h with ⟨h1,h2⟩ | ⟨h1,h2⟩
 ·omega
 ·exact h1
theorem UD.none (h:UD S v) (a:∀u,S u->0<=u) (b:v<0):∀u,¬S u:=by
 rcases h with ⟨h1,h2⟩ | ⟨h1,h2⟩
 ·exact h2
 ·have:=a _ h1;omega
theorem UD.ge (h:UD S v) (a:S u):u<=v:=by
 rcases h with ⟨h1,h2⟩ | ⟨h1,h2⟩
 ·exact absurd a (h2 _)
 ·exact h2 _ a
theorem UD.one (h:UD S v) (a:∀u,S u->0<=u) (b:0<=x):UD (fun u=>S u\/u=x) (if v<x then x else v):=by
 by_cases hc:v<x
 ·rw [Nl hc];refine .inr ⟨.inr rfl,fun u hu=>?_⟩;rcases hu with hu | hu
  ·have:=h.ge hu;omega
  ·omega
 ·rw [Ng hc];have:=h.mem (by omega);refine .inr ⟨.inl this,fun u hu=>?_⟩;rcases hu with hu | hu
  ·exact h.ge hu
  ·omega
theorem UD.dom (h:UD S v) (h1:∀u,S u->T u) (h2:∀u,T u->∃w,u<=w/\S w):UD T v:=by
 rcases h with ⟨a,b⟩ | ⟨a,b⟩
 ·exact .inl ⟨a,fun u c=>by obtain ⟨w,_,d⟩:=h2 u c;exact b w d⟩
 ·exact .inr ⟨h1 _ a,fun u c=>by obtain ⟨w,e,d⟩:=h2 u c;have:=b w d;omega⟩
def Nk9 (pos:Int->Nat) (low:Int) (bef aft:List Int) (l:Leg):List Int:=
 if bef.getD (pos l.dst) (-1)<0 then aft else
 match Tj l (bef.getD (pos l.dst) (-1)) with
 | some a=>if low<=a-l.cut/\aft.getD (pos l.frm) (-1)<a-l.cut then aft.set (pos l.frm) (a-l.cut) else aft
 | none=>aft
theorem Nx4:(Nk9 pos low bef aft l).length=aft.length:=by
 unfold Nk9;split
 ·rfl
 ·split
  ·split
   ·simp
   ·rfl
  ·rfl
def Ntp (pos:Int->Nat) (low:Int) (bef:List Int) (l:Leg) (q:Nat) (u:Int):Prop:=
 pos l.frm=q/\0<=bef.getD (pos l.dst) (-1)/\∃a,Tj l (bef.getD (pos l.dst) (-1))=some a/\u=a-l.cut/\low<=u
theorem Dep.ready (h:Dep l a):0<=a-l.cut:=by
 obtain ⟨d,_,b,rfl⟩:=h;unfold goes at b;simp only [N2,N6] at b;omega
theorem Ntp.nonneg {q:Nat} (h:Ntp pos low bef l q u):0<=u:=by
 obtain ⟨_,_,a,h1,h2,_⟩:=h;have:=(TS h1).1.ready;omega
theorem Nx3 {q:Nat} (hp:pos l.frm<aft.length) (k:∀u,S u->0<=u) (h:UD S (aft.getD q (-1))) :
  UD (fun u=>S u\/Ntp pos low bef l q u) ((Nk9 pos low bef aft l).getD q (-1)):=by
 unfold Nk9;by_cases hs:bef.getD (pos l.dst) (-1)<0
 ·rw [Nl hs];exact h.congr fun u=>⟨.inl,fun c=>c.elim id fun d=>absurd d.2.1 (by omega)⟩
 rw [Ng hs];cases hn:Tj l (bef.getD (pos l.dst) (-1)) with
 | none=>
   simp only;exact h.congr fun u=>⟨.inl,fun c=>c.elim id fun ⟨_,_,a,j,_⟩=>by rw [hn] at j;cases j⟩
 | some a=>
   simp only;have i:0<=a-l.cut:=(TS hn).1.ready;by_cases f:low<=a-l.cut
   ·by_cases g:pos l.frm=q
    ·have e:((if low<=a-l.cut/\aft.getD (pos l.frm) (-1)<a-l.cut then aft.set (pos l.frm) (a-l.cut) else aft).getD q (-1))=if aft.getD q (-1)<a-l.cut then a-l.cut else aft.getD q (-1):=by
      subst g;by_cases hc:aft.getD (pos l.frm) (-1)<a-l.cut
      ·rw [Nl ⟨f,hc⟩,Nl hc,X0 hp,Nl rfl]
      ·rw [Ng (fun h=>hc h.2),Ng hc]
     rw [e];refine (h.one k i).congr fun u=>⟨fun c=>c.elim .inl fun c=>.inr ⟨g,by omega,a,hn,c,by omega⟩,fun c=>c.elim .inl fun ⟨_,_,b,d,c,_⟩=>?_⟩
     rw [hn] at d;cases d;exact .inr c
    ·have e:((if low<=a-l.cut/\aft.getD (pos l.frm) (-1)<a-l.cut then aft.set (pos l.frm) (a-l.cut) else aft).getD q (-1))=aft.getD q (-1):=by
      split
      ·rw [X0 hp,Ng g]
      ·rfl
     rw [e];exact h.congr fun u=>⟨.inl,fun c=>c.elim id fun d=>absurd d.1 g⟩
   ·rw [Ng (fun h=>f h.1)];refine h.congr fun u=>⟨.inl,fun c=>c.elim id fun ⟨_,_,b,d,c,hl⟩=>?_⟩
    rw [hn] at d;cases d;omega
theorem Nik {pos:Int->Nat} {low:Int} {bef:List Int} {q:Nat}:∀{L:List Leg} {aft:List Int} {S:Int->Prop},(∀l∈L,pos l.frm<aft.length)->(∀u,S u->0<=u)->UD S (aft.getD q (-1))->
  UD (fun u=>S u\/∃l∈L,Ntp pos low bef l q u) ((L.foldl (Nk9 pos low bef) aft).getD q (-1))
 | [],aft,S,hL,h0,h=>h.congr fun u=>⟨.inl,fun hu=>hu.elim id fun ⟨l,hl,_⟩=>by cases hl⟩
 | l::L,aft,S,hL,h0,h=>by
   rw [O1];refine (Nik (L:=L) (fun x hx=>?_) (fun u hu=>?_) (Nx3 (low:=low) (bef:=bef) (hL l (Nu ..)) h0 h)).congr fun u=>?_
   ·rw [Nx4];exact hL x (Nr _ hx)
   ·rcases hu with hu | hu
    ·exact h0 u hu
    ·exact hu.nonneg
   ·constructor
    ·rintro ((h | h) | ⟨x,hx,h⟩)
     ·exact .inl h
     ·exact .inr ⟨l,Nu ..,h⟩
     ·exact .inr ⟨x,Nr _ hx,h⟩
    ·rintro (h | ⟨x,hx,h⟩)
     ·exact .inl (.inl h)
     ·rcases Ns.1 hx with rfl | hx
      ·exact .inl (.inr h)
      ·exact .inr ⟨x,hx,h⟩
def YH (pos:Int->Nat) (bef aft:List Int) (l:Leg):List Int:=
 if bef.getD (pos l.dst) (-1)<0 then aft else
 match Tj l (bef.getD (pos l.dst) (-1)) with
 | some a=>aft.set (pos l.frm) (if aft.getD (pos l.frm) (-1)<a-l.cut then a-l.cut else aft.getD (pos l.frm) (-1))
 | none=>aft
def stepX (N:Nat) (pos:Int->Nat) (L:List Leg) (bef:List Int):List Int:=L.foldl (YH pos bef) (List.replicate N (-1))
theorem Ntw:YH pos bef aft l=Nk9 pos 0 bef aft l:=by
 unfold YH Nk9;split
 ·rfl
 cases ha:Tj l (bef.getD (pos l.dst) (-1)) with
 | none=>rfl
 | some a=>
   have:=(TS ha).1.ready;by_cases h:aft.getD (pos l.frm) (-1)<a-l.cut
   ·simp only [h,this,and_self,if_true]
   ·simp only [h,and_false,if_false];apply List.ext_getElem?;intro i;rw [Ob];split
    ·rename_i e;subst e;split
     ·rename_i hl;rw [Nb,Ni hl];rfl
     ·rename_i hl;rw [N0 (by omega)]
    ·rfl
def Naq (N:Nat) (pos:Int->Nat) (L:List Leg) (q dl:Int):Nat->List Int
 | 0=>YC N (pos q) dl
 | k+1=>stepX N pos L (Naq N pos L q dl k)
theorem N9a {pos:Int->Nat} {bef:List Int}:∀{L:List Leg} {aft:List Int},L.foldl (YH pos bef) aft=L.foldl (Nk9 pos 0 bef) aft
 | [],_=>rfl
 | l::L,aft=>by rw [O1,O1,Ntw,N9a]
theorem Nfo {N:Nat} {P:List Int} {L:List Leg} {pos:Int->Nat} {q dl:Int} (hn:NetOk N P L pos) (m:q∈P) (hr:0<=dl):∀(k:Nat) (p:Int),p∈P->
  UD (fun u=>0<=u/\∃v,v<=dl/\Way L k p u q v) ((Naq N pos L q dl k).getD (pos p) (-1))
 | 0,p,hp=>by
   rw [Naq,Ney (hn.lt q m)];by_cases h:pos q=pos p
   ·rw [Nl h];have:=hn.inj q m p hp h;subst this;exact .inr ⟨⟨hr,dl,Ow _,.nil _ _⟩,fun u ⟨_,v,i,c⟩=>by have:=c.later hn.fine;omega⟩
   ·rw [Ng h];refine .inl ⟨rfl,fun u ⟨_,v,i,c⟩=>?_⟩;cases c;exact h rfl
 | k+1,p,hp=>by
   have ih:=Nfo hn m hr k;rw [Naq,stepX,N9a];have f:(List.replicate N (-1:Int)).getD (pos p) (-1)=-1:=by
    rw [Nb,P3];split<;>rfl
   refine (Nik (L:=L) (S:=fun _=>False) (fun l hl=>by rw [Pa];exact hn.lt _ (hn.frm l hl)) (fun _ h=>h.elim) (.inl ⟨f,fun _ h=>h⟩)).dom (fun u g=>?_) (fun u g=>?_)
   ·rcases g with g | ⟨l,hl,hd,hs,a,r,rfl,j⟩
    ·exact g.elim
    ·obtain ⟨_,v,i,c⟩:=(ih l.dst (hn.dst l hl)).mem hs;obtain ⟨o,s,B⟩:=TS r;have:=hn.inj _ (hn.frm l hl) p hp hd;subst this;have t:∃v',v'<=dl/\Way L k l.dst (a+l.mins) q v':=by
      rcases c.early s with ⟨rfl,e1,e2⟩ | hw'
      ·rw [e1];exact ⟨a+l.mins,by omega,.nil _ _⟩
      ·exact ⟨v,i,hw'⟩
     obtain ⟨v',n,hw'⟩:=t;exact ⟨o.ready,v',n,.cons hl rfl o (Ow _) hw'⟩
   ·obtain ⟨A,v,i,c⟩:=g;obtain ⟨l,hl,a,w,hd,r,hw'⟩:=c.head;subst w;have d:=hn.fine l hl;have y:=hd.ready;have x:=(ih l.dst (hn.dst l hl)).ge (u:=a+l.mins) ⟨by unfold Fine at d;omega,v,i,hw'⟩;have e:0<=(Naq N pos L q dl k).getD (pos l.dst) (-1):=by unfold Fine at d;omega
    cases hnx:Tj l ((Naq N pos L q dl k).getD (pos l.dst) (-1)) with
    | none=>have:=Ne9 hnx a hd;omega
    | some b=>
      obtain ⟨C,D,z⟩:=TS hnx;have:=z a hd (by omega);exact ⟨b-l.cut,by omega,.inr ⟨l,hl,rfl,e,b,hnx,rfl,by omega⟩⟩
def Su (L:List Leg):Int->Int->List (Leg×Int)->Int->Int->Prop
 | p,t,[],q,u=>p=q/\t=u
 | p,t,(l,a)::w,q,u=>l∈L/\l.frm=p/\Dep l a/\t<=a-l.cut/\Su L l.dst (a+l.mins) w q u
theorem Su.way:∀{w:List (Leg×Int)} {p t q u:Int},Su L p t w q u->Way L w.length p t q u
 | [],p,t,q,u,h=>by obtain ⟨rfl,rfl⟩:=h;exact .nil _ _
 | (l,a)::w,p,t,q,u,h=>by
   obtain ⟨h1,h2,b,c,h5⟩:=h;exact .cons h1 h2 b c h5.way
theorem Way.isWay:∀{k:Nat} {p t q u:Int},Way L k p t q u->∃w,w.length=k/\Su L p t w q u
 | 0,p,t,q,u,h=>by cases h;exact ⟨[],rfl,rfl,rfl⟩
 | k+1,p,t,q,u,h=>by
   obtain ⟨l,hl,a,d,hd,c,b⟩:=h.head;obtain ⟨w,e,b⟩:=b.isWay;exact ⟨(l,a)::w,by simp [e],hl,d,hd,c,b⟩
def T9 (pos:Int->Nat) (late:List Int) (plant there:Int) (l:Leg):Option (Leg×Int):=
 if l.frm=plant then match R7 l there with
  | some a=>if a+l.mins<=late.getD (pos l.dst) (-1) then some (l,a) else none
  | none=>none
 else none
def Y5 (pos:Int->Nat) (S:List Leg) (late:List Int) (plant there:Int):Option (Leg×Int):=S.findSome? (T9 pos late plant there)
def goW (pos:Int->Nat) (S:List Leg) (late:Nat->List Int):Nat->Int->Int->List (Leg×Int)
 | 0,_,_=>[]
 | k+1,p,t=>match Y5 pos S (late k) p t with
   | some (l,a)=>(l,a)::goW pos S late k l.dst (a+l.mins)
   | none=>goW pos S late k p t
def Ng1:List Int->List Int->Prop
 | x::a,y::b=>x<y\/x=y/\Ng1 a b
 | _,_=>False
def Ye (w:List (Leg×Int)):List Int:=w.map fun x=>x.1.id
theorem YR {late:List Int} {p t:Int} {r:Leg×Int} (h:T9 pos late p t l=some r):l.frm=p/\r.1=l/\R7 l t=some r.2/\r.2+l.mins<=late.getD (pos l.dst) (-1):=by
 unfold T9 at h;split at h
 case isFalse=>cases h
 rename_i c;split at h
 case h_2=>cases h
 rename_i a b;split at h
 case isFalse=>cases h
 rename_i hl;cases h;exact ⟨c,rfl,b,hl⟩
theorem Nnl {N:Nat} {P:List Int} {L S:List Leg} {pos:Int->Nat} {q dl:Int} {late:Nat->List Int} (hn:NetOk N P L pos) (T:q∈P) (hr:0<=dl)
  (hS:∀l,l∈S↔l∈L) (hs:S.Pairwise fun a b=>a.id<b.id) (c:∀k,late k=Naq N pos L q dl k):∀(k:Nat) (p t:Int),p∈P->0<=t->(∃v,v<=dl/\Way L k p t q v)->
  (goW pos S late k p t).length=k/\(∃v,v<=dl/\Su L p t (goW pos S late k p t) q v)/\
   ∀w' t' v',t<=t'->Su L p t' w' q v'->v'<=dl->w'.length=k->¬Ng1 (Ye w') (Ye (goW pos S late k p t))
 | 0,p,t,hp,ht,⟨v,E,G⟩=>by
   cases G;exact ⟨rfl,⟨_,E,rfl,rfl⟩,fun w' t' v' _ _ _ hl=>by cases w' with | nil=>exact fun h=>h | cons=>simp at hl⟩
 | k+1,p,t,hp,ht,⟨v,E,G⟩=>by
   have can:∀l∈L,∀a t' v:Int,l.frm=p->Dep l a->t<=t'->t'<=a-l.cut->Way L k l.dst (a+l.mins) q v->v<=dl->∃b,T9 pos (late k) p t l=some (l,b)/\b<=a:=by
    intro l hl a t' v hf hd D ha G E;have f:=hn.fine l hl;have ae:=hd.ready;have ad:=(Nfo hn T hr k l.dst (hn.dst l hl)).ge (u:=a+l.mins) ⟨by unfold Fine at f;omega,v,E,G⟩;cases H:R7 l t with
    | none=>have:=XY H a hd;omega
    | some b=>
      obtain ⟨Z,q2,q3⟩:=Rz H;have:=q3 a hd (by omega);refine ⟨b, ?_,this⟩;simp only [T9,hf,if_true,H,c];rw [Nl (by omega)]
   obtain ⟨Y,A,a0,M,K,J,W⟩:=G.head;obtain ⟨b0,z,_⟩:=can Y A a0 t v M K (Ow _) J W E;have R:Y5 pos S (late k) p t≠none:=by
    intro e;unfold Y5 at e;rw [List.findSome?_eq_none_iff] at e;rw [e Y ((hS Y).2 A)] at z;cases z
   cases hp1:Y5 pos S (late k) p t with
   | none=>exact absurd hp1 R
   | some r=>
     obtain ⟨l,a⟩:=r;have C:=hp1;unfold Y5 at C;obtain ⟨S1,x,S2,s,H,n⟩:=List.findSome?_eq_some_iff.1 C;obtain ⟨g1,g2,g3,I⟩:=YR H;simp only at g2 g3 I;subst g2;have g:l∈L:=(hS l).1 (by rw [s];simp);have f:=hn.fine l g;obtain ⟨Z,q2,q3⟩:=Rz g3;rw [c] at I;have ag:=Z.ready;obtain ⟨_,v1,U,X⟩:=(Nfo hn T hr k l.dst (hn.dst l g)).mem (by unfold Fine at f;omega);have o:∃v,v<=dl/\Way L k l.dst (a+l.mins) q v:=by
      rcases X.early I with ⟨rfl,e1,e2⟩ | hw'
      ·rw [e1];exact ⟨a+l.mins,by omega,.nil _ _⟩
      ·exact ⟨v1,U,hw'⟩
     obtain ⟨i1,⟨v2,V,i2⟩,i3⟩:=Nnl hn T hr hS hs c k l.dst (a+l.mins) (hn.dst l g) (by unfold Fine at f;omega) o;have O:goW pos S late (k+1) p t=(l,a)::goW pos S late k l.dst (a+l.mins):=by simp only [goW,hp1]
     rw [O];refine ⟨by simp [i1],⟨v2,V,g,g1,Z,q2,i2⟩,fun w' t' v' D hw' F j=>?_⟩;cases w' with
     | nil=>simp at j
     | cons y w'=>
       obtain ⟨i,a'⟩:=y;obtain ⟨h1,h2,h3,h4,h5⟩:=hw';have d:w'.length=k:=by simpa using j
       obtain ⟨b',w,aa⟩:=can i h1 a' t' v' h2 h3 D h4 (d▸h5.way) F;intro m;simp only [Ye,Oj,Ng1] at m;have hin:i∈S:=(hS i).2 h1;rw [s] at hin hs;rcases m with B | ⟨ab,B⟩
       ·
        rcases Ok.1 hin with hin | hin
        ·rw [n i hin] at w;cases w
        ·rcases Ns.1 hin with rfl | hin
         ·omega
         ·have:=(List.pairwise_cons.1 (Re.1 hs).2.1).1 i hin;omega
       ·have Q:i=l:=by
         rcases Ok.1 hin with hin | hin
         ·have:=(Re.1 hs).2.2 i hin l (by simp);omega
         ·rcases Ns.1 hin with h | hin
          ·exact h
          ·have:=(List.pairwise_cons.1 (Re.1 hs).2.1).1 i hin;omega
        subst Q;have:=q3 a' h3 (by omega);exact i3 w' (a'+i.mins) v' (by omega) h5 F d B
theorem Su.from (hL:∀l∈L,Fine l):∀{w:List (Leg×Int)} {p t q u m:Int},Su L p t w q u->m∈w.map (fun x=>x.1.dst)->∃k s,k<w.length/\t<=s/\Way L k m s q u
 | [],_,_,_,_,_,_,h=>by simp at h
 | (l,a)::w,p,t,q,u,m,h,hm=>by
   obtain ⟨h1,h2,f,g,h5⟩:=h;have b:=hL l h1;unfold Fine at b;rw [Oj,Ns] at hm;rcases hm with rfl | hm
   ·exact ⟨w.length,a+l.mins,by simp,by omega,h5.way⟩
   ·obtain ⟨k,s,d,e,c⟩:=Su.from hL h5 hm;exact ⟨k,s,by simp;omega,by omega,c⟩
theorem Su.nodup (hL:∀l∈L,Fine l):∀{w:List (Leg×Int)} {p t q v:Int},Su L p t w q v->(∀j v',Way L j p t q v'->v'<=v->w.length<=j)->(p::w.map (fun x=>x.1.dst)).Nodup
 | [],_,_,_,_,_,_=>by simp
 | (l,a)::w,p,t,q,v,h,hmin=>by
   rw [List.nodup_cons];constructor
   ·intro hm;obtain ⟨k,s,i,b,c⟩:=Su.from hL h hm;rcases c.early b with ⟨rfl,rfl,e⟩ | hw
    ·have:=hmin 0 t (.nil _ _) (by omega);simp at this
    ·have:=hmin k v hw (Ow _);omega
   ·obtain ⟨h1,h2,d,f,h5⟩:=h;rw [Oj];exact h5.nodup hL fun j v' hw g=>by
     have:=hmin (j+1) v' (.cons h1 h2 d f hw) g;simpa using this
end Go.Net



namespace Go.Scan
variable {x:Ev} {S:List Ev}
def ZP (a b:Ev):Prop:=RX (QQ a) (QQ b)<0
instance (a b:Ev):Decidable (ZP a b):=by unfold ZP;infer_instance
def M7 (x:Ev):List Ev->List Ev
 | []=>[x]
 | y::l=>if ZP x y then y::M7 x l else x::y::l
theorem ZG (x:Ev):∀l,(M7 x l).Perm (x::l)
 | []=>.refl _
 | y::l=>by
   unfold M7;split
   ·exact ((ZG x l).cons y).trans (.swap x y l)
   ·exact .refl _
def Ndw (l:List Ev):Prop:=l.Pairwise fun a b=>RX (QQ b) (QQ a)<=0
theorem Naj (x:Ev):∀l,Ndw l->Ndw (M7 x l)
 | [],_=>by unfold M7;exact List.pairwise_singleton _ _
 | y::l,h=>by
   obtain ⟨h1,h2⟩:=List.pairwise_cons.mp h;unfold M7;split
   ·rename_i hc;unfold ZP at hc;refine List.pairwise_cons.mpr ⟨fun b hb=>?_,Naj x l h2⟩;rcases Ns.mp ((ZG x l).mem_iff.mp hb) with rfl | hb
    ·omega
    ·exact h1 b hb
   ·rename_i hc;unfold ZP at hc;have a:RX (QQ y) (QQ x)<=0:=by rw [UJ (QQ x) (QQ y)];omega
    refine List.pairwise_cons.mpr ⟨fun b hb=>?_,h⟩;rcases Ns.mp hb with rfl | hb
    ·exact a
    ·exact Ww _ (QQ y) _ rfl rfl (h1 b hb) a
def Yd:List Ev->List Ev->List Ev
 | acc,[]=>acc
 | acc,x::l=>Yd (M7 x acc) l
theorem Nbx:∀(l a:List Ev),Ndw a->Ndw (Yd a l)/\(Yd a l).Perm (a++l)
 | [],a,h=>⟨h,by rw [Na];exact .refl _⟩
 | x::l,a,h=>by
   obtain ⟨h1,h2⟩:=Nbx l _ (Naj x a h);refine ⟨h1,h2.trans ?_⟩;exact ((ZG x a).append_right l).trans List.perm_middle.symm
theorem Nni (l:List Ev):(Yd [] l).reverse=UI QQ l:=by
 obtain ⟨h1,h2⟩:=Nbx l [] List.Pairwise.nil;refine XP ZE Nid ?_ ((List.reverse_perm _).trans (by simpa using h2));unfold TJ;rw [List.pairwise_reverse];exact h1
def bare (e:Ev):Ev:={ e with time:=0 }
theorem Njb {M:List Mk} {s:Ev} (h:RA s):0<=TL M s/\TL M s<=s.seen:=by
 unfold RA at h;unfold TL;omega
theorem Ncz (M:List Mk) (S:List Ev):((RP M S).map bare).Perm (S.map bare):=by
 have h:=(Tm QQ (S.map fun s=>{ s with time:=TL M s })).map bare;rw [List.map_map] at h;exact h
theorem Nub (S:List Ev):(((OH S).1++(OH S).2).map bare).Perm (S.map bare):=by
 unfold OH;have h:=YN (RP (QZ S) S) [] [];rw [Na,Og] at h;exact (h.map bare).trans (Ncz _ S)
theorem MQ (S:List Ev):(OH S).1.length+(OH S).2.length=S.length:=by
 have:=(Nub S).length_eq;simpa using this
theorem MO (S:List Ev):(OH S).1.Sublist (RP (QZ S) S)/\(OH S).2.Sublist (RP (QZ S) S):=by
 obtain ⟨K,T,h1,h2,a⟩:=Mq (RP (QZ S) S) [] [];unfold OH;rw [h1];exact ⟨by simpa using h2,by simpa using a⟩
theorem Nlp (S:List Ev):Yz (OH S).1/\Yz (OH S).2:=by
 have h:=Ner (Ng3 (QZ S) S);exact ⟨h.sublist (MO S).1,h.sublist (MO S).2⟩
theorem MP (h:x∈(OH S).1\/x∈(OH S).2):∃s∈S,{ s with time:=TL (QZ S) s }=x:=by
 rcases h with h | h
 ·exact Yj.mp ((MO S).1.mem h)
 ·exact Yj.mp ((MO S).2.mem h)
theorem Nbc (hS:∀s∈S,RA s) (h:x∈(OH S).1\/x∈(OH S).2):0<=x.time/\x.time<=x.seen:=by
 obtain ⟨s,hs,rfl⟩:=MP h;exact Njb (hS s hs)
theorem Nfq (M:List Mk) (S:List Ev):(RP M S).length=S.length:=by
 have:=(Ncz M S).length_eq;simpa using this
end Go.Scan



namespace Go.Net
variable {L:List Leg} {v:Int}
def Zv:Int->List (Leg×Int)->Prop
 | _,[]=>True
 | t,(l,a)::w=>R7 l t=some a/\Zv (a+l.mins) w
structure BestW (L:List Leg) (p ready q v:Int) (w:List (Leg×Int)):Prop where
 way:Su L p ready w q v
 few:∀j v',Way L j p ready q v'->v'<=v->w.length<=j
 least:∀w' v',Su L p ready w' q v'->v'<=v->w'.length=w.length->¬Ng1 (Ye w') (Ye w)
 next:Zv ready w
theorem Nbz {pos:Int->Nat} {S:List Leg} {late:Nat->List Int}:∀(k:Nat) (p t:Int),Zv t (goW pos S late k p t)
 | 0,_,_=>trivial
 | k+1,p,t=>by
   simp only [goW];cases hp:Y5 pos S (late k) p t with
   | none=>exact Nbz k p t
   | some r=>
     obtain ⟨l,a⟩:=r;unfold Y5 at hp;obtain ⟨g,x,h,e,f,b⟩:=List.findSome?_eq_some_iff.1 hp;obtain ⟨i,c,d,j⟩:=YR f;simp only at c d;subst c;exact ⟨d,Nbz k l.dst (a+l.mins)⟩
theorem Nnv {f:Nat->Int} {v:Int}:∀{n:Nat},f n=v->∃k,k<=n/\f k=v/\∀j,j<k->f j≠v
 | 0,h=>⟨0,Nf _,h,fun j a=>by omega⟩
 | n+1,h=>by
   by_cases h1:∃m,m<=n/\f m=v
   ·obtain ⟨m,hm,h2⟩:=h1;obtain ⟨k,k1,k2,k3⟩:=Nnv (n:=m) h2;exact ⟨k,by omega,k2,k3⟩
   ·exact ⟨n+1,Nf _,h,fun j a e=>h1 ⟨j,by omega,e⟩⟩
termination_by n=>n
theorem Ne8:∀{a b:List Int},a.length=b.length->¬Ng1 a b->¬Ng1 b a->a=b
 | [],[],_,_,_=>rfl
 | [],_::_,h,_,_=>by simp at h
 | _::_,[],h,_,_=>by simp at h
 | x::a,y::b,h,h1,h2=>by
   simp only [Ng1,not_or,not_and] at h1 h2;have e:x=y:=by omega
   subst e;rw [Ne8 (by simpa using h) (h1.2 rfl) (h2.2 rfl)]
theorem Nls {L:List Leg} (c:∀a∈L,∀b∈L,a.id=b.id->a=b):∀{w w':List (Leg×Int)} {p q u d t t' q' f:Int},Su L p t w q u->Su L d t' w' q' f->t=t'->Zv t w->Zv t' w'->Ye w=Ye w'->w=w'
 | [],[],_,_,_,_,_,_,_,_,_,_,_,_,_,_=>rfl
 | [],_::_,_,_,_,_,_,_,_,_,_,_,_,_,_,h=>by simp [Ye] at h
 | _::_,[],_,_,_,_,_,_,_,_,_,_,_,_,_,h=>by simp [Ye] at h
 | (l,a)::w,(l',a')::w',p,q,u,d,t,t',q',f,h,h',e,n,n',hi=>by
   subst e;simp only [Ye,Oj,List.cons.injEq] at hi;have:=c l h.1 l' h'.1 hi.1;subst this;have g:=n.1.symm.trans n'.1;cases g;rw [Nls c h.2.2.2.2 h'.2.2.2.2 rfl n.2 n'.2 hi.2]
theorem BestW.uniq {M:List Leg} {p t q:Int} {w w':List (Leg×Int)} (hs:∀l,l∈M↔l∈L) (f:∀a∈L,∀b∈L,a.id=b.id->a=b) (h:BestW L p t q v w) (h':BestW M p t q v w'):w=w':=by
 have mono:∀{A B:List Leg},(∀l∈A,l∈B)->∀{w:List (Leg×Int)} {p t q u:Int},Su A p t w q u->Su B p t w q u:=by
  intro A B d w
  induction w with
  | nil=>intro p t q u h;exact h
  | cons x w ih=>intro p t q u h;exact ⟨d _ h.1,h.2.1,h.2.2.1,h.2.2.2.1,ih h.2.2.2.2⟩
 have c:Su L p t w' q v:=mono (fun l hl=>(hs l).1 hl) h'.way;have g:Su M p t w q v:=mono (fun l hl=>(hs l).2 hl) h.way;have i:=h.few _ _ c.way (Ow _);have j:=h'.few _ _ g.way (Ow _);have hl:w.length=w'.length:=by omega
 have e:Ye w=Ye w':=Ne8 (by simp [Ye,hl]) (h'.least _ _ g (Ow _) hl) (h.least _ _ c (Ow _) hl.symm);exact Nls f h.way c rfl h.next h'.next e
theorem N16 {N:Nat} {P:List Int} {S:List Leg} {pos:Int->Nat} {p q ready:Int} {late:Nat->List Int} {k:Nat} (hn:NetOk N P L pos) (hp:p∈P) (o:q∈P) (hr:0<=ready) (g:0<=v)
  (hS:∀l,l∈S↔l∈L) (hs:S.Pairwise fun a b=>a.id<b.id) (f:∀k,late k=Naq N pos L q v k) (r:Vd L p ready q v)
  (hk:(QM N pos (ready+86400) L p ready k).getD (pos q) (-1)=v) (n:∀j,j<k->(QM N pos (ready+86400) L p ready j).getD (pos q) (-1)≠v) :
  BestW L p ready q v (goW pos S late k p ready)/\(goW pos S late k p ready).length=k:=by
 obtain ⟨_,A⟩:=r.mem g;have few:∀j v',Way L j p ready q v'->v'<=v->k<=j:=by
  intro j v' d c;apply Oe;intro hc;have hm:=Uu hn hp hr (by omega:ready<=ready+86400) j q o;have h1:=hm.le (u:=v') ⟨⟨j,Nf _,d⟩,by omega⟩;have h2:0<=(QM N pos (ready+86400) L p ready j).getD (pos q) (-1):=by
   apply Oe;intro z;exact hm.none (fun u ⟨⟨i,_,d⟩,_⟩=>by have:=d.later hn.fine;omega) (by omega) v' ⟨⟨j,Nf _,d⟩,by omega⟩
  obtain ⟨⟨i,hi,t⟩,m⟩:=hm.mem h2;have C:=r.le (u:=(QM N pos (ready+86400) L p ready j).getD (pos q) (-1)) ⟨⟨i,t⟩,m⟩;exact n j (by omega) (by omega)
 have hm:=Uu hn hp hr (by omega:ready<=ready+86400) k q o;rw [hk] at hm;obtain ⟨⟨i,hi,d⟩,_⟩:=hm.mem g;have h:i=k:=by have:=few i v d (Ow _);omega
 subst h;obtain ⟨w,⟨v',B,x⟩,y⟩:=Nnl hn o g hS hs f i p ready hp hr ⟨v,Ow _,d⟩;have e:v'=v:=by
  have:=r.le (u:=v') ⟨⟨_,x.way⟩,by omega⟩;omega
 subst e;exact ⟨⟨x,fun j v' d c=>by rw [w];exact few j v' d c,fun w' v' s c hl=>y w' ready v' (Ow _) s c (by omega),Nbz _ _ _⟩,w⟩
theorem Su.mem:∀{w:List (Leg×Int)} {p t q u:Int},Su L p t w q u->∀x∈w,x.1∈L
 | (l,a)::w,_,_,_,_,h,x,hx=>by
   rcases Ns.1 hx with rfl | hx
   ·exact h.1
   ·exact h.2.2.2.2.mem x hx
end Go.Net



namespace Go.Scan
structure Two (at' w f o:Int):Prop where
 a1:40000<=at'
 a2:at'<=105535
 w1:1<=w
 w2:w<=65536
 f1:-32768<=f
 f2:f<=32767
 o1:-32768<=o
 o2:o<=32767
 dr:-w<=o-f
end Go.Scan



namespace Go.Scan
open Go.AM
variable {S K:List Ev} {M:List Mk} {a:Nat} {e:Ev}
theorem Nkd {m:Mk}:∀{O:List Mk} {k:Nat},k<=O.length->(∀j,j<k->VW (gt O j) m)->(k=O.length\/¬VW (gt O k) m)->
  Xa m O=if k<O.length/\Rs (gt O k) m then (if m.off<(gt O k).off then O.set k { gt O k with off:=m.off } else O) else O.take k++m::O.drop k
 | [],k,hk,_,_=>by
   have b:k=0:=by simpa using hk
   subst b;unfold Xa;rw [Ng (by simp)];rfl
 | y::O,0,hk,_,h2=>by
   have hn:¬VW y m:=by
    rcases h2 with h | h
    ·simp at h
    ·exact h
   unfold Xa;rw [Ng hn];show _=if 0<(y::O).length/\Rs y m then (if m.off<y.off then { y with off:=m.off }::O else y::O) else m::y::O
   by_cases hs:Rs y m
   ·have hc:0<(y::O).length/\Rs y m:=⟨by simp,hs⟩
    rw [Nl hs,Nl hc];by_cases a:m.off<y.off
    ·simp only [Nl a]
    ·simp only [Ng a]
   ·have hc:¬(0<(y::O).length/\Rs y m):=fun h=>hs h.2
    rw [Ng hs,Ng hc]
 | y::O,k+1,hk,h1,h2=>by
   have e:VW y m:=h1 0 (Nat.succ_pos k);have ih:=Nkd (m:=m) (O:=O) (k:=k) (by simpa using hk) (fun j f=>by have:=h1 (j+1) (by omega);rwa [QL] at this) (by
    rcases h2 with h | h
    ·left;simpa using h
    ·right;rwa [QL] at h)
   unfold Xa;rw [Nl e,ih,QL];simp only [Nm,Nat.add_lt_add_iff_right,Qz,Qv,List.drop_succ_cons,Ox];by_cases c:k<O.length/\Rs (gt O k) m
   ·rw [Nl c,Nl c];by_cases d:m.off<(gt O k).off
    ·rw [Nl d,Nl d]
    ·rw [Ng d,Ng d]
   ·rw [Ng c,Ng c]
theorem Nnh (m:Mk):∀O:List Mk,(Xa m O).length<=O.length+1
 | []=>Nf _
 | y::O=>by
   unfold Xa;have:=Nnh m O;split
   ·simp;omega
   ·split<;>simp
def Wu (S:List Ev) (i:Nat):List Mk:=((S.take i).filter (VJ S)).foldl (fun out s=>Xa (V3 s) out) []
theorem Npu (S:List Ev):Wu S 0=[]:=rfl
theorem Nun (S:List Ev):Wu S S.length=Nen S:=by unfold Wu Nen;rw [N9]
theorem Nem {i:Nat} (h:i<S.length):Wu S (i+1)=if VJ S (gt S i) then Xa (V3 (gt S i)) (Wu S i) else Wu S i:=by
 unfold Wu;rw [Nv h,List.filter_append,List.foldl_append,OQ h];by_cases hm:VJ S S[i]=true
 ·rw [Nl hm,Ou hm];rfl
 ·rw [Ng hm,Ov hm];rfl
theorem Nht (S:List Ev):∀i,i<=S.length->(Wu S i).length<=i
 | 0,_=>Nf _
 | i+1,h=>by
   rw [Nem (by omega)];have:=Nht S i (by omega);split
   ·have:=Nnh (V3 (gt S i)) (Wu S i);omega
   ·omega
theorem Ntg {x:Ev}:∀{l:List Ev} {k:Nat},k<=l.length->(∀j,j<k->ZP x (gt l j))->(k=l.length\/¬ZP x (gt l k))->M7 x l=l.take k++x::l.drop k
 | [],k,hk,_,_=>by
   have a:k=0:=by simpa using hk
   subst a;rfl
 | y::l,0,hk,_,h2=>by
   have hn:¬ZP x y:=by
    rcases h2 with h | h
    ·simp at h
    ·exact h
   unfold M7;rw [Ng hn];rfl
 | y::l,k+1,hk,h1,h2=>by
   have b:ZP x y:=h1 0 (Nat.succ_pos k);unfold M7;rw [Nl b,Ntg (k:=k) (by simpa using hk) (fun j c=>by have:=h1 (j+1) (by omega);rwa [QL] at this) (by
    rcases h2 with h | h
    ·left;simpa using h
    ·right;rwa [QL] at h)]
   rfl
theorem Ncv:∀(l a:List Ev) (x:Ev),Yd a (l++[x])=M7 x (Yd a l)
 | [],a,x=>rfl
 | y::l,a,x=>Ncv l (M7 y a) x
theorem Nff:∀(l a:List Ev),(Yd a l).length=a.length+l.length
 | [],a=>rfl
 | y::l,a=>by
   show (Yd (M7 y a) l).length=_;rw [Nff l,(ZG y a).length_eq];simp;omega
def Ndc (M:List Mk) (S:List Ev) (i:Nat):List Ev:=(Yd [] ((S.take i).map fun s=>{ s with time:=TL M s })).reverse
theorem Nx8 {i:Nat} (h:i<=S.length):(Ndc M S i).length=i:=by
 unfold Ndc;rw [List.length_reverse,Nff,Nz,N5];simp;omega
theorem Nx9 (M:List Mk) (S:List Ev):Ndc M S S.length=RP M S:=by
 unfold Ndc RP;rw [N9,Nni]
theorem Ntx {i:Nat} (h:i<S.length):Ndc M S (i+1)=(M7 { gt S i with time:=TL M (gt S i) } (Ndc M S i).reverse).reverse:=by
 unfold Ndc;rw [Nv h,O7,Oj,List.map_nil,Ncv,OQ h,List.reverse_reverse]
theorem N14 {α:Type} [Inhabited α] {l:List α} {j:Nat} (h:j<l.length):gt l.reverse j=gt l (l.length-1-j):=by
 rw [OQ (by simpa using h),OQ (by omega),List.getElem_reverse]
theorem N1z {x:Ev} {l:List Ev} (c:a<=l.length) (h1:∀j,a<=j->j<l.length->ZP x (gt l j)) (h2:a=0\/¬ZP x (gt l (a-1))):(M7 x l.reverse).reverse=l.take a++x::l.drop a:=by
 rw [Ntg (k:=l.length-a) (by simp) (fun j d=>by rw [N14 (by omega)];exact h1 _ (by omega) (by omega)) (by
  rcases h2 with h | h
  ·left;simp;omega
  ·by_cases b:a=0
   ·left;simp;omega
   ·right;rw [N14 (by omega),show l.length-1-(l.length-a)=a-1 by omega];exact h)]
 rw [List.reverse_append,List.reverse_cons,No];congr 1
 ·rw [List.drop_reverse,List.reverse_reverse,show l.length-(l.length-a)=a by omega]
 ·rw [List.take_reverse,List.reverse_reverse,show l.length-(l.length-a)=a by omega];rfl
theorem Ns6:∀{X Y:List Int} {i:Nat},X.length=Y.length->i<X.length->(∀j,j<i->gt X j=gt Y j)->gt X i≠gt Y i->(RX X Y<0↔gt X i<gt Y i)
 | [],_,i,_,hi,_,_=>by simp at hi
 | a::X,[],i,h,_,_,_=>by simp at h
 | a::X,b::Y,0,_,_,_,hne=>by
   have c:a≠b:=hne;unfold RX;show _↔a<b;by_cases h1:a<b
   ·rw [Nl h1];simp [h1]
   ·rw [Ng h1,Nl (by omega)];omega
 | a::X,b::Y,i+1,h,hi,hj,hne=>by
   have d:a=b:=hj 0 (Nat.succ_pos i);subst d;unfold RX;rw [Ng (by omega),Ng (by omega)];exact Ns6 (by simpa using h) (by simpa using hi) (fun j e=>by have:=hj (j+1) (by omega);rwa [QL,QL] at this) (by rwa [QL,QL] at hne)
theorem Nm5:∀{X Y:List Int},X.length=Y.length->(∀j,j<X.length->gt X j=gt Y j)->RX X Y=0
 | [],[],_,_=>rfl
 | [],b::Y,h,_=>by simp at h
 | a::X,[],h,_=>by simp at h
 | a::X,b::Y,h,hj=>by
   have d:a=b:=hj 0 (by simp);subst d;unfold RX;rw [Ng (by omega),Ng (by omega)];exact Nm5 (by simpa using h) fun j c=>by have:=hj (j+1) (by simpa using c);rwa [QL,QL] at this
def Sw:List Ev->List Ev->List Ev->List Ev×List Ev
 | kept,twice,[]=>(kept,twice)
 | kept,twice,e::l=>if Uz e kept then Sw kept (e::twice) l else Sw (e::kept) twice l
theorem Mt:∀(l k t:List Ev),TP k t l=((Sw k t l).1.reverse,(Sw k t l).2.reverse)
 | [],k,t=>rfl
 | e::l,k,t=>by
   unfold TP Sw;split
   ·exact Mt l _ _
   ·exact Mt l _ _
theorem Ms (e:Ev):∀(l k t:List Ev),Sw k t (l++[e])=if Uz e (Sw k t l).1 then ((Sw k t l).1,e::(Sw k t l).2) else (e::(Sw k t l).1,(Sw k t l).2)
 | [],k,t=>by
   show Sw k t [e]=_;unfold Sw;split<;>rfl
 | y::l,k,t=>by
   show Sw k t (y::(l++[e]))=_;unfold Sw;split
   ·exact Ms e l _ _
   ·exact Ms e l _ _
theorem Nbe:∀(l k t:List Ev),(Sw k t l).1.length+(Sw k t l).2.length=k.length+t.length+l.length
 | [],k,t=>by simp [Sw]
 | y::l,k,t=>by
   unfold Sw;split
   ·rw [Nbe l];simp;omega
   ·rw [Nbe l];simp;omega
theorem Nbd:∀(l k t:List Ev) {y:Ev},(y∈(Sw k t l).1->y∈k\/y∈l)/\(y∈(Sw k t l).2->y∈t\/y∈l)
 | [],k,t,y=>⟨fun h=>.inl h,fun h=>.inl h⟩
 | x::l,k,t,y=>by
   unfold Sw;split
   ·obtain ⟨h1,h2⟩:=Nbd l k (x::t) (y:=y);refine ⟨fun h=>(h1 h).imp id (Nr _),fun h=>?_⟩;rcases h2 h with h | h
    ·rcases Ns.mp h with rfl | h
     ·exact .inr Nu
     ·exact .inl h
    ·exact .inr (Nr _ h)
   ·obtain ⟨h1,h2⟩:=Nbd l (x::k) t (y:=y);refine ⟨fun h=>?_,fun h=>(h2 h).imp id (Nr _)⟩;rcases h1 h with h | h
    ·rcases Ns.mp h with rfl | h
     ·exact .inr Nu
     ·exact .inl h
    ·exact .inr (Nr _ h)
theorem Nx7 {i:Nat} {y:Ev} (h:y∈Ndc M S i):∃s∈S,y={ s with time:=TL M s }:=by
 unfold Ndc at h;rw [List.mem_reverse,(Nbx _ _ List.Pairwise.nil).2.mem_iff,Og,List.mem_map] at h;obtain ⟨s,hs,rfl⟩:=h;exact ⟨s,Rf hs,rfl⟩
theorem Nyb (b:a<K.length) (h1:∀j,a<j->j<K.length->RD (gt K j)≠RD e) (h2:RD (gt K a)=RD e):Uz e K.reverse=decide (e.time-(gt K a).time<=10):=by
 have:Wx e K.reverse=some (gt K a):=by
  unfold Wx;rw [List.find?_eq_some_iff_getElem];refine ⟨by simpa using h2,K.length-1-a,by simp;omega, ?_,fun j c=>?_⟩
  ·rw [List.getElem_reverse,OQ b];congr 1;omega
  ·have:=h1 (K.length-1-j) (by omega) (by omega);rw [List.getElem_reverse];rw [OQ (by omega)] at this;simpa using this
 unfold Uz;rw [this]
theorem Nya (h1:∀j,j<K.length->RD (gt K j)≠RD e):Uz e K.reverse=false:=by
 have:Wx e K.reverse=none:=by
  unfold Wx;rw [List.find?_eq_none];intro x b;obtain ⟨j,a,rfl⟩:=List.mem_iff_getElem.mp (List.mem_reverse.mp b);have:=h1 j a;rw [OQ a] at this;simpa using this
 unfold Uz;rw [this]
end Go.Scan




