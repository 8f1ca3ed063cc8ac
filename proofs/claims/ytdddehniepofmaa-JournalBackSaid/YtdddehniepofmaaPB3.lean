/-
  Joined texts, 3 of 6. A part of the claim that the last text states.
-/
import Derived.Test.YtdddehniepofmaaPB2
set_option linter.unusedVariables false
set_option linter.unusedSimpArgs false
namespace Go.AM
universe u
namespace Sym
abbrev t (n : Nat) : Operand := .tmp n
abbrev k (v : Value) : Operand := .const v
abbrev i (d : Nat) (o : AOp) : AIns := ⟨some d, none, o, none, []⟩
end Sym

/-- What simp is not to enter: an argument that a later argument's type names. -/
structure Bx {α : Sort u} (a : α) : Type where

def Ret (E : Env) (af : AFunc) (lim : Nat) (k : List AItem) (fr : Nat → Value) (H : Heap) (R : Value → Heap → Prop) (_ : Bx k := ⟨⟩) (_ : Bx R := ⟨⟩) : Prop :=
  ∃ n v H', aRun E n af lim k fr H = some (v, H') ∧ R v H'
def CallR (E : Env) (mp : Bool) (lim : Nat) (g : FuncId) (as : List Value) (H : Heap) (R : Value → Heap → Prop) (_ : Bx R := ⟨⟩) : Prop :=
  ∃ n v H', aCall E n mp lim (.inl g) as H = some (v, H') ∧ R v H'
/-- A call, of whatever is called. -/
def CallT (E : Env) (mp : Bool) (lim : Nat) (t : FuncId ⊕ Nat) (as : List Value) (H : Heap) (R : Value → Heap → Prop) (_ : Bx R := ⟨⟩) : Prop :=
  ∃ n v H', aCall E n mp lim t as H = some (v, H') ∧ R v H'
/-- A round of the loop at i. -/
def CallY (E : Env) (mp : Bool) (lim : Nat) (i : Nat) (as : List Value) (H : Heap) (R : Value → Heap → Prop) (_ : Bx R := ⟨⟩) : Prop :=
  ∃ n v H', aCall E n mp lim (.inr i) as H = some (v, H') ∧ R v H'

def opK (r : Option (Value × Heap)) (f : Value → Heap → Prop) (_ : Bx f := ⟨⟩) : Prop := match r with | some (v, H') => f v H' | none => False
def condK (v : Value) (p q : Prop) (_ : Bx p := ⟨⟩) (_ : Bx q := ⟨⟩) : Prop := match v with | .bool true => p | .bool false => q | _ => False
def wantK (v : Value) (b : Bool) (p q : Prop) (_ : Bx p := ⟨⟩) (_ : Bx q := ⟨⟩) : Prop := match v with | .bool c => if c = b then p else q | _ => q

section
variable {E : Env} {af : AFunc} {lim : Nat} {K : List AItem} {fr : Nat → Value} {H : Heap} {R : Value → Heap → Prop}

theorem Ret.succ {k k1 : List AItem} {fr fr1 : Nat → Value} {H H1 : Heap} (h : ∀ n, aRun E (n + 1) af lim k fr H = aRun E n af lim k1 fr1 H1) : Ret E af lim k fr H R = Ret E af lim k1 fr1 H1 R := by
  apply propext
  constructor
  · rintro ⟨n, v, H', hx, hr⟩
    cases n with
    | zero => simp [aRun] at hx
    | succ n => rw [h] at hx; exact ⟨n, v, H', hx, hr⟩
  · rintro ⟨n, v, H', hx, hr⟩
    exact ⟨n + 1, v, H', by rw [h]; exact hx, hr⟩
theorem Ret_fin {k : List AItem} (h : ∀ n, aRun E (n + 1) af lim k fr H = (result fr H af.results).map (·, H)) : Ret E af lim k fr H R = opK ((result fr H af.results).map (·, H)) R := by
  apply propext
  constructor
  · rintro ⟨n, v, H', hx, hr⟩
    cases n with
    | zero => simp [aRun] at hx
    | succ n => rw [h] at hx; rw [hx]; exact hr
  · intro hk
    cases hx : (result fr H af.results).map (·, H) with
    | none => rw [hx] at hk; exact hk.elim
    | some p => rw [hx] at hk; exact ⟨1, p.1, p.2, by rw [h, hx], hk⟩

theorem Ret_seq {a b} : Ret E af lim (.code (.seq a b) :: K) fr H R = Ret E af lim (.code a :: .code b :: K) fr H R := Ret.succ fun n => by rw [aRun.eq_def]
theorem Ret_skip : Ret E af lim (.code .skip :: K) fr H R = Ret E af lim K fr H R := Ret.succ fun n => by rw [aRun.eq_def]
theorem Ret_cops {l} : Ret E af lim (.code (.ops l) :: K) fr H R = Ret E af lim (.ops none l :: K) fr H R := Ret.succ fun n => by rw [aRun.eq_def]
theorem Ret_drawn {m l} : Ret E af lim (.code (.drawn m l) :: K) fr H R = Ret E af lim (.ops (some H.length) l :: K) fr (H ++ List.replicate m .dead) R := Ret.succ fun n => by rw [aRun.eq_def]
theorem Ret_ret : Ret E af lim (.code .ret :: K) fr H R = opK ((result fr H af.results).map (·, H)) R := Ret_fin fun n => by rw [aRun.eq_def]
theorem Ret_nil : Ret E af lim [] fr H R = opK ((result fr H af.results).map (·, H)) R := Ret_fin fun n => by rw [aRun.eq_def]
theorem Ret_block {id b} : Ret E af lim (.code (.block id b) :: K) fr H R = Ret E af lim (.code b :: .inBlock id :: K) fr H R := Ret.succ fun n => by rw [aRun.eq_def]
theorem Ret_inBlock {id} : Ret E af lim (.inBlock id :: K) fr H R = Ret E af lim K fr H R := Ret.succ fun n => by rw [aRun.eq_def]
theorem Ret_loop {b} : Ret E af lim (.code (.loop b) :: K) fr H R = Ret E af lim (.code b :: .inLoop b :: K) fr H R := Ret.succ fun n => by rw [aRun.eq_def]
theorem Ret_inLoop {b} : Ret E af lim (.inLoop b :: K) fr H R = Ret E af lim (.code b :: .inLoop b :: K) fr H R := Ret.succ fun n => by rw [aRun.eq_def]
theorem Ret_ops_nil {b} : Ret E af lim (.ops b [] :: K) fr H R = Ret E af lim K fr H R := Ret.succ fun n => by rw [aRun.eq_def]
theorem Ret_exit {id K'} (h : aExit id K = some K') : Ret E af lim (.code (.exit id) :: K) fr H R = Ret E af lim K' fr H R := Ret.succ fun n => by rw [aRun.eq_def]; simp only [h]
theorem aExit_here {id : Nat} {K : List AItem} : aExit id (.inBlock id :: K) = some K := by simp [aExit]
theorem aExit_other {id id' : Nat} {K : List AItem} (h : id' ≠ id) : aExit id (.inBlock id' :: K) = aExit id K := by simp [aExit, h]
theorem aExit_code {id : Nat} {c} {K : List AItem} : aExit id (.code c :: K) = aExit id K := by simp [aExit]
theorem aExit_loop {id : Nat} {c} {K : List AItem} : aExit id (.inLoop c :: K) = aExit id K := by simp [aExit]
theorem Ret_cond {c a b} : Ret E af lim (.code (.cond c a b) :: K) fr H R = condK (ev fr c) (Ret E af lim (.code a :: K) fr H R) (Ret E af lim (.code b :: K) fr H R) := by
  cases hc : ev fr c with
  | bool t => cases t <;> exact Ret.succ fun n => by rw [aRun.eq_def]; simp only [hc]
  | _ =>
    apply propext
    constructor
    · rintro ⟨n, v, H', hx, hr⟩
      cases n with
      | zero => simp [aRun] at hx
      | succ n => rw [aRun.eq_def] at hx; simp only [hc] at hx; cases hx
    · intro h; exact h.elim

theorem Ret.det {k : List AItem} {n m : Nat} {r r' : Value × Heap} (h : aRun E n af lim k fr H = some r) (h' : aRun E m af lim k fr H = some r') : r = r' := by
  have h1 := aRun_le E (Nat.le_max_left n m) h
  have h2 := aRun_le E (Nat.le_max_right n m) h'
  rw [h1] at h2; exact Option.some.inj h2

def isCall : AOp → Bool
  | .call .. => true
  | _ => false
def dOk (N : Nat) : Option Nat → Bool
  | none => true
  | some d => decide (d < N)
def putF (d : Option Nat) (fr : Nat → Value) (v : Value) : Nat → Value := match d with | none => fr | some d => upd fr d v
def gK (N : Nat) (fr : Nat → Value) (g : Option (Nat × Bool)) (p q : Prop) (_ : Bx p := ⟨⟩) (_ : Bx q := ⟨⟩) : Prop := match wantedA N fr g with | none => False | some true => p | some false => q
/-- What an operation comes to. -/
def oK (E : Env) (lim : Nat) (base : Option Nat) (dest : Option Nat) (mask : List Nat) (o : AOp) (fr : Nat → Value) (H : Heap) (Q : Value → Heap → Prop) (_ : Bx Q := ⟨⟩) : Prop :=
  match base with
  | none => ∃ n v H', stepOp (aCall E n) lim none o (ev fr) H = some (v, H') ∧ Q v H'
  | some b => ∃ n v H', stepOp (aCall E n) lim (dest.map (b + ·)) o (ev fr) (maskH b mask H) = some (v, H') ∧ Q v (unmaskH b mask H H')

theorem putD_ok {N : Nat} {d : Option Nat} (h : dOk N d = true) (v : Value) : putD N fr d v = some (putF d fr v) := by
  cases d with
  | none => rfl
  | some d => simp [dOk] at h; simp [putD, putF, h]

theorem Ret_cons {base : Option Nat} {x : AIns} {l : List AIns} : Ret E af lim (.ops base (x :: l) :: K) fr H R = ∃ n, ∃ fr' H', insOp (aCall E n) af.ntmps lim base x fr H = some (fr', H') ∧ Ret E af lim (.ops base l :: K) fr' H' R := by
  apply propext
  constructor
  · rintro ⟨n, v, H', hx, hr⟩
    cases n with
    | zero => simp [aRun] at hx
    | succ n =>
      rw [aRun.eq_def] at hx
      simp only at hx
      split at hx
      · rename_i fr' H1 h1
        exact ⟨n, fr', H1, h1, n, v, H', hx, hr⟩
      · cases hx
  · rintro ⟨n, fr', H1, h1, m, v, H', hx, hr⟩
    refine ⟨max n m + 1, v, H', ?_, hr⟩
    rw [aRun.eq_def]
    simp only
    have e : insOp (callWith E (aRun E (max n m))) af.ntmps lim base x fr H = some (fr', H1) := insOp_mono (aCall_le E (Nat.le_max_left n m)) h1
    rw [e]
    exact aRun_le E (Nat.le_max_right n m) hx

theorem Ret_i {base d g o dest mask l} (hd : dOk af.ntmps d = true) : Ret E af lim (.ops base (⟨d, g, o, dest, mask⟩ :: l) :: K) fr H R =
    gK af.ntmps fr g (oK E lim base dest mask o fr H fun v H' => Ret E af lim (.ops base l :: K) (putF d fr v) H' R) (Ret E af lim (.ops base l :: K) (putF d fr undef) H R) := by
  rw [Ret_cons]
  unfold gK insOp insVal
  simp only
  cases hw : wantedA af.ntmps fr g with
  | none => simp
  | some t =>
    cases t with
    | false =>
      simp only [Option.map_eq_some_iff, Prod.mk.injEq, putD_ok hd]
      apply propext
      constructor
      · rintro ⟨n, fr', H', ⟨f, h1, h2, h3⟩, h4⟩
        cases h1; subst h2 h3; exact h4
      · intro h
        exact ⟨0, _, _, ⟨_, rfl, rfl, rfl⟩, h⟩
    | true =>
      cases base with
      | none =>
        simp only [oK]
        apply propext
        constructor
        · rintro ⟨n, fr', H', h1, h4⟩
          split at h1
          · rename_i v H1 h5
            rw [putD_ok hd] at h1
            simp only [Option.map_some, Option.some.injEq, Prod.mk.injEq] at h1
            obtain ⟨rfl, rfl⟩ := h1
            exact ⟨n, v, H1, h5, h4⟩
          · cases h1
        · rintro ⟨n, v, H', h1, h4⟩
          refine ⟨n, _, _, ?_, h4⟩
          rw [h1]
          simp only [putD_ok hd, Option.map_some]
      | some b =>
        simp only [oK]
        apply propext
        constructor
        · rintro ⟨n, fr', H', h1, h4⟩
          split at h1
          · rename_i v H1 h5
            split at h5
            · rename_i v' H2 h6
              cases h5
              rw [putD_ok hd] at h1
              simp only [Option.map_some, Option.some.injEq, Prod.mk.injEq] at h1
              obtain ⟨rfl, rfl⟩ := h1
              exact ⟨n, v, H2, h6, h4⟩
            · cases h5
          · cases h1
        · rintro ⟨n, v, H', h1, h4⟩
          refine ⟨n, _, _, ?_, h4⟩
          rw [h1]
          simp only [putD_ok hd, Option.map_some]

theorem gK_none {N : Nat} {p q : Prop} : gK N fr none p q = p := rfl
theorem gK_some {N g : Nat} {b : Bool} {p q : Prop} (h : g < N) : gK N fr (some (g, b)) p q = wantK (fr g) b p q := by
  unfold gK wantedA wantK
  simp only [h, if_true]
  cases fr g <;> simp
  rename_i c
  cases c <;> cases b <;> simp

variable {base dest : Option Nat} {mask : List Nat} {o : AOp} {Q : Value → Heap → Prop}
theorem stepOp_no {C : CallF} {ρ : Operand → Value} (h : isCall o = false) : stepOp C lim dest o ρ H = aOp lim dest o ρ H := by
  cases o <;> first | rfl | (simp [isCall] at h)
theorem oK_none (h : isCall o = false) : oK E lim none dest mask o fr H Q = opK (aOp lim none o (ev fr) H) Q := by
  unfold oK opK
  simp only [stepOp_no h]
  cases aOp lim none o (ev fr) H with
  | none => simp
  | some p => exact propext ⟨by rintro ⟨_, _, _, h, q⟩; cases h; exact q, fun q => ⟨0, _, _, rfl, q⟩⟩
theorem oK_some {b : Nat} (h : isCall o = false) : oK E lim (some b) dest mask o fr H Q = opK (aOp lim (dest.map (b + ·)) o (ev fr) (maskH b mask H)) fun v H' => Q v (unmaskH b mask H H') := by
  unfold oK opK
  simp only [stepOp_no h]
  cases aOp lim (dest.map (b + ·)) o (ev fr) (maskH b mask H) with
  | none => simp
  | some p => exact propext ⟨by rintro ⟨_, _, _, h, q⟩; cases h; exact q, fun q => ⟨0, _, _, rfl, q⟩⟩
def calK (c : Option ((FuncId ⊕ Nat) × List Value)) (f : FuncId ⊕ Nat → List Value → Prop) (_ : Bx f := ⟨⟩) : Prop := match c with | some (g, as) => f g as | none => False
theorem CallT_inl {mp : Bool} {g : FuncId} {as : List Value} : CallT E mp lim (.inl g) as H Q = CallR E mp lim g as H Q := rfl
theorem CallT_inr {mp : Bool} {i : Nat} {as : List Value} : CallT E mp lim (.inr i) as H Q = CallY E mp lim i as H Q := rfl
theorem calK_some {g : FuncId ⊕ Nat} {as : List Value} {f : FuncId ⊕ Nat → List Value → Prop} : calK (some (g, as)) f = f g as := rfl
theorem pure_any : CM.any.isPure = false := id rfl
theorem pure_pure : CM.pure.isPure = true := id rfl
theorem pure_mk : CM.mk.isPure = false := id rfl
theorem lim_any {H : Heap} : CM.any.lim lim H = lim := id rfl
theorem lim_pure {H : Heap} : CM.pure.lim lim H = lim := id rfl
theorem lim_mk {H : Heap} : CM.mk.lim lim H = H.length := id rfl
theorem oK_call {mp : CM} {f : Operand} {args : List Operand} : oK E lim none dest mask (.call mp f args) fr H Q = calK (callee (ev fr f) (args.map (ev fr))) fun g as => CallT E mp.isPure (mp.lim lim H) g as H Q := by
  unfold oK calK stepOp CallT
  simp only
  cases callee (ev fr f) (args.map (ev fr)) with
  | none => simp
  | some p => obtain ⟨g, as⟩ := p; rfl
theorem oK_callB {b : Nat} {mp : CM} {f : Operand} {args : List Operand} : oK E lim (some b) dest mask (.call mp f args) fr H Q = calK (callee (ev fr f) (args.map (ev fr))) fun g as => CallT E mp.isPure (mp.lim lim (maskH b mask H)) g as (maskH b mask H) fun v H' => Q v (unmaskH b mask H H') := by
  unfold oK calK stepOp CallT
  simp only
  cases callee (ev fr f) (args.map (ev fr)) with
  | none => simp
  | some p => obtain ⟨g, as⟩ := p; rfl

theorem CallR.det {mp : Bool} {g : FuncId} {as : List Value} {n : Nat} {v : Value} {H' : Heap} (h : aCall E n mp lim (.inl g) as H = some (v, H')) : CallR E mp lim g as H Q = Q v H' := by
  apply propext
  constructor
  · rintro ⟨m, v', H1, h1, h2⟩
    have e1 := aCall_le E (Nat.le_max_left n m) _ _ _ _ _ _ h
    have e2 := aCall_le E (Nat.le_max_right n m) _ _ _ _ _ _ h1
    rw [e1] at e2; cases e2; exact h2
  · exact fun hq => ⟨n, v, H', h, hq⟩

/-- What a function that is taken as pure comes to. -/
theorem CallR_old {mp : Bool} {g : FuncId} {as : List Value} {v : Value} (ho : E.orc g as = none) (ht : E.tr g = some af) (hp : E.pure g = true) (hf : olds H.length 4 v = true) (h : Ret E af H.length [.code af.body] (frame0 as) H fun v' _ => v' = v) : CallR E mp lim g as H Q = Q v H := by
  obtain ⟨n, v', H', h1, rfl⟩ := h
  exact CallR.det (n := n) (by unfold aCall callWith; simp only [ho, ht, hp, if_true, h1, hf])
theorem CallR_pure {mp : Bool} {g : FuncId} {as : List Value} {v : Value} (ho : E.orc g as = none) (ht : E.tr g = some af) (hp : E.pure g = true) (hf : flat 4 v = true) (h : Ret E af H.length [.code af.body] (frame0 as) H fun v' _ => v' = v) : CallR E mp lim g as H Q = Q v H :=
  CallR_old ho ht hp (olds_of_flat 4 hf) h
theorem CallR_orc {mp : Bool} {g : FuncId} {as : List Value} {v : Value} (ho : E.orc g as = some v) (ha : as.all atom = true) (hf : flat 4 v = true) : CallR E mp lim g as H Q = Q v H :=
  CallR.det (n := 0) (by unfold aCall callWith; simp only [ho, ha, hf, Bool.and_self, if_true])
/-- What any other function comes to: its run. -/
theorem CallR_run {mp : Bool} {g : FuncId} {as : List Value} (ho : E.orc g as = none) (ht : E.tr g = some af) (hp : E.pure g = false) (hm : mp = false) : CallR E mp lim g as H Q = Ret E af lim [.code af.body] (frame0 as) H Q := by
  unfold CallR Ret aCall callWith
  simp only [ho, ht, hp, hm, Bool.false_eq_true, if_false]
end

section
variable {E : Env} {af : AFunc} {lim : Nat} {K : List AItem} {fr fr' : Nat → Value} {H H' : Heap} {R : Value → Heap → Prop}
theorem Ret_congr {k : List AItem} (h1 : fr = fr') (h2 : H = H') : Ret E af lim k fr H R = Ret E af lim k fr' H' R := by rw [h1, h2]
theorem CallR_congr {mp : Bool} {g : FuncId} {as as' : List Value} (h1 : as = as') (h2 : H = H') : CallR E mp lim g as H R = CallR E mp lim g as' H' R := by rw [h1, h2]
theorem opK_congr {r r' : Option (Value × Heap)} {f : Value → Heap → Prop} (h : r = r') : opK r f = opK r' f := by rw [h]
theorem opK_some {v : Value} {f : Value → Heap → Prop} : opK (some (v, H)) f = f v H := rfl
theorem opK_none {f : Value → Heap → Prop} : opK none f = False := rfl
theorem condK_congr {v v' : Value} {p q : Prop} (h : v = v') : condK v p q = condK v' p q := by rw [h]
theorem condK_bool {b : Bool} {p q : Prop} : condK (.bool b) p q = if b = true then p else q := by cases b <;> simp [condK]
theorem wantK_congr {v v' : Value} {b : Bool} {p q : Prop} (h : v = v') : wantK v b p q = wantK v' b p q := by rw [h]
theorem wantK_t {c : Bool} {p q : Prop} : wantK (.bool c) true p q = if c = true then p else q := rfl
theorem wantK_f {c : Bool} {p q : Prop} : wantK (.bool c) false p q = if c = true then q else p := by cases c <;> simp [wantK]
theorem CallT_congr {mp : Bool} {g g' : FuncId ⊕ Nat} {as as' : List Value} (h0 : g = g') (h1 : as = as') (h2 : H = H') : CallT E mp lim g as H R = CallT E mp lim g' as' H' R := by rw [h0, h1, h2]
theorem CallY_congr {mp : Bool} {i i' : Nat} {as as' : List Value} (h0 : i = i') (h1 : as = as') (h2 : H = H') : CallY E mp lim i as H R = CallY E mp lim i' as' H' R := by rw [h0, h1, h2]
theorem calK_congr {c c' : Option ((FuncId ⊕ Nat) × List Value)} {f : FuncId ⊕ Nat → List Value → Prop} (h : c = c') : calK c f = calK c' f := by rw [h]
theorem gK_congr {N N' : Nat} {g : Option (Nat × Bool)} {p q : Prop} (h : N = N') : gK N fr g p q = gK N' fr g p q := by rw [h]
theorem oK_congr {base dest : Option Nat} {mask : List Nat} {o : AOp} {Q : Value → Heap → Prop} (h : H = H') : oK E lim base dest mask o fr H Q = oK E lim base dest mask o fr H' Q := by rw [h]

theorem upd_same {d : Nat} {v : Value} : upd fr d v d = v := by simp [upd]
theorem upd_ne {d t : Nat} {v : Value} (h : t ≠ d) : upd fr d v t = fr t := by simp [upd, h]
theorem ev_tmp {t : Nat} : ev fr (.tmp t) = fr t := rfl
theorem ev_const {v : Value} : ev fr (.const v) = v := rfl
theorem ev_func {f : FuncId} : ev fr (.func f) = .func (.func f) #[] #[] := rfl
theorem result1 {x : Nat} : result fr H [.tmp x] = some (fr x) := rfl
theorem hget_old {X : Heap} {j : Nat} (h : j < H.length) : hget (H ++ X) j = hget H j := by
  unfold hget; rw [List.getD_eq_getElem?_getD, List.getD_eq_getElem?_getD, List.getElem?_append_left h]
theorem hget_new {X : Heap} {j : Nat} : hget (H ++ X) (H.length + j) = X.getD j .dead := by
  unfold hget; rw [List.getD_eq_getElem?_getD, List.getD_eq_getElem?_getD, List.getElem?_append_right (by omega)]; simp
theorem hget_new0 {X : Heap} : hget (H ++ X) H.length = X.getD 0 .dead := hget_new (j := 0)
theorem set_new {X : Heap} {j : Nat} {b : Blk} : (H ++ X).set (H.length + j) b = H ++ X.set j b := by
  rw [List.set_append_right _ _ (by omega)]; simp
theorem set_new0 {X : Heap} {b : Blk} : (H ++ X).set H.length b = H ++ X.set 0 b := set_new (j := 0)
theorem mask_nil {b : Nat} : maskH b [] H = H := rfl
theorem unmask_nil {b : Nat} {H0 : Heap} : unmaskH b [] H0 H = H := rfl
end
section
variable {E : Env} {lim b : Nat} {dest : Option Nat} {mask : List Nat} {fr : Nat → Value} {H : Heap} {Q : Value → Heap → Prop}
theorem on_mov {qx : Operand} : oK E lim none dest mask (.mov qx) fr H Q = opK (aOp lim none (.mov qx) (ev fr) H) Q := oK_none rfl
theorem ob_mov {qx : Operand} : oK E lim (some b) dest mask (.mov qx) fr H Q = opK (aOp lim (dest.map (b + ·)) (.mov qx) (ev fr) (maskH b mask H)) fun v H' => Q v (unmaskH b mask H H') := oK_some rfl
theorem on_pick {qc qa qb : Operand} : oK E lim none dest mask (.pick qc qa qb) fr H Q = opK (aOp lim none (.pick qc qa qb) (ev fr) H) Q := oK_none rfl
theorem ob_pick {qc qa qb : Operand} : oK E lim (some b) dest mask (.pick qc qa qb) fr H Q = opK (aOp lim (dest.map (b + ·)) (.pick qc qa qb) (ev fr) (maskH b mask H)) fun v H' => Q v (unmaskH b mask H H') := oK_some rfl
theorem on_bin {qop : BinOp} {qx qy : Operand} : oK E lim none dest mask (.bin qop qx qy) fr H Q = opK (aOp lim none (.bin qop qx qy) (ev fr) H) Q := oK_none rfl
theorem ob_bin {qop : BinOp} {qx qy : Operand} : oK E lim (some b) dest mask (.bin qop qx qy) fr H Q = opK (aOp lim (dest.map (b + ·)) (.bin qop qx qy) (ev fr) (maskH b mask H)) fun v H' => Q v (unmaskH b mask H H') := oK_some rfl
theorem on_eqv {qneg : Bool} {qk : EqKind} {qx qy : Operand} : oK E lim none dest mask (.eqv qneg qk qx qy) fr H Q = opK (aOp lim none (.eqv qneg qk qx qy) (ev fr) H) Q := oK_none rfl
theorem ob_eqv {qneg : Bool} {qk : EqKind} {qx qy : Operand} : oK E lim (some b) dest mask (.eqv qneg qk qx qy) fr H Q = opK (aOp lim (dest.map (b + ·)) (.eqv qneg qk qx qy) (ev fr) (maskH b mask H)) fun v H' => Q v (unmaskH b mask H H') := oK_some rfl
theorem on_un {qop : UnOp} {qx : Operand} : oK E lim none dest mask (.un qop qx) fr H Q = opK (aOp lim none (.un qop qx) (ev fr) H) Q := oK_none rfl
theorem ob_un {qop : UnOp} {qx : Operand} : oK E lim (some b) dest mask (.un qop qx) fr H Q = opK (aOp lim (dest.map (b + ·)) (.un qop qx) (ev fr) (maskH b mask H)) fun v H' => Q v (unmaskH b mask H H') := oK_some rfl
theorem on_conv {qk : IntKind} {qx : Operand} : oK E lim none dest mask (.conv qk qx) fr H Q = opK (aOp lim none (.conv qk qx) (ev fr) H) Q := oK_none rfl
theorem ob_conv {qk : IntKind} {qx : Operand} : oK E lim (some b) dest mask (.conv qk qx) fr H Q = opK (aOp lim (dest.map (b + ·)) (.conv qk qx) (ev fr) (maskH b mask H)) fun v H' => Q v (unmaskH b mask H H') := oK_some rfl
theorem on_alloc {qzero : List Value} : oK E lim none dest mask (.alloc qzero) fr H Q = opK (aOp lim none (.alloc qzero) (ev fr) H) Q := oK_none rfl
theorem ob_alloc {qzero : List Value} : oK E lim (some b) dest mask (.alloc qzero) fr H Q = opK (aOp lim (dest.map (b + ·)) (.alloc qzero) (ev fr) (maskH b mask H)) fun v H' => Q v (unmaskH b mask H H') := oK_some rfl
theorem on_box {qx : Operand} : oK E lim none dest mask (.box qx) fr H Q = opK (aOp lim none (.box qx) (ev fr) H) Q := oK_none rfl
theorem ob_box {qx : Operand} : oK E lim (some b) dest mask (.box qx) fr H Q = opK (aOp lim (dest.map (b + ·)) (.box qx) (ev fr) (maskH b mask H)) fun v H' => Q v (unmaskH b mask H H') := oK_some rfl
theorem on_build {qzero : List Value} {qparts : List (Nat × Nat × Operand)} : oK E lim none dest mask (.build qzero qparts) fr H Q = opK (aOp lim none (.build qzero qparts) (ev fr) H) Q := oK_none rfl
theorem ob_build {qzero : List Value} {qparts : List (Nat × Nat × Operand)} : oK E lim (some b) dest mask (.build qzero qparts) fr H Q = opK (aOp lim (dest.map (b + ·)) (.build qzero qparts) (ev fr) (maskH b mask H)) fun v H' => Q v (unmaskH b mask H H') := oK_some rfl
theorem on_buildSlice {qlen : Nat} {qzero : List Value} {qparts : List (Nat × Nat × Operand)} : oK E lim none dest mask (.buildSlice qlen qzero qparts) fr H Q = opK (aOp lim none (.buildSlice qlen qzero qparts) (ev fr) H) Q := oK_none rfl
theorem ob_buildSlice {qlen : Nat} {qzero : List Value} {qparts : List (Nat × Nat × Operand)} : oK E lim (some b) dest mask (.buildSlice qlen qzero qparts) fr H Q = opK (aOp lim (dest.map (b + ·)) (.buildSlice qlen qzero qparts) (ev fr) (maskH b mask H)) fun v H' => Q v (unmaskH b mask H H') := oK_some rfl
theorem on_load1 {qa : Operand} : oK E lim none dest mask (.load1 qa) fr H Q = opK (aOp lim none (.load1 qa) (ev fr) H) Q := oK_none rfl
theorem ob_load1 {qa : Operand} : oK E lim (some b) dest mask (.load1 qa) fr H Q = opK (aOp lim (dest.map (b + ·)) (.load1 qa) (ev fr) (maskH b mask H)) fun v H' => Q v (unmaskH b mask H H') := oK_some rfl
theorem on_loadN {qn : Nat} {qa : Operand} : oK E lim none dest mask (.loadN qn qa) fr H Q = opK (aOp lim none (.loadN qn qa) (ev fr) H) Q := oK_none rfl
theorem ob_loadN {qn : Nat} {qa : Operand} : oK E lim (some b) dest mask (.loadN qn qa) fr H Q = opK (aOp lim (dest.map (b + ·)) (.loadN qn qa) (ev fr) (maskH b mask H)) fun v H' => Q v (unmaskH b mask H H') := oK_some rfl
theorem on_store {qn : Nat} {qa qx : Operand} : oK E lim none dest mask (.store qn qa qx) fr H Q = opK (aOp lim none (.store qn qa qx) (ev fr) H) Q := oK_none rfl
theorem ob_store {qn : Nat} {qa qx : Operand} : oK E lim (some b) dest mask (.store qn qa qx) fr H Q = opK (aOp lim (dest.map (b + ·)) (.store qn qa qx) (ev fr) (maskH b mask H)) fun v H' => Q v (unmaskH b mask H H') := oK_some rfl
theorem on_nilCheck {qx : Operand} : oK E lim none dest mask (.nilCheck qx) fr H Q = opK (aOp lim none (.nilCheck qx) (ev fr) H) Q := oK_none rfl
theorem ob_nilCheck {qx : Operand} : oK E lim (some b) dest mask (.nilCheck qx) fr H Q = opK (aOp lim (dest.map (b + ·)) (.nilCheck qx) (ev fr) (maskH b mask H)) fun v H' => Q v (unmaskH b mask H H') := oK_some rfl
theorem on_fieldAddr {qoff : Nat} {qa : Operand} : oK E lim none dest mask (.fieldAddr qoff qa) fr H Q = opK (aOp lim none (.fieldAddr qoff qa) (ev fr) H) Q := oK_none rfl
theorem ob_fieldAddr {qoff : Nat} {qa : Operand} : oK E lim (some b) dest mask (.fieldAddr qoff qa) fr H Q = opK (aOp lim (dest.map (b + ·)) (.fieldAddr qoff qa) (ev fr) (maskH b mask H)) fun v H' => Q v (unmaskH b mask H H') := oK_some rfl
theorem on_field1 {qoff : Nat} {qx : Operand} : oK E lim none dest mask (.field1 qoff qx) fr H Q = opK (aOp lim none (.field1 qoff qx) (ev fr) H) Q := oK_none rfl
theorem ob_field1 {qoff : Nat} {qx : Operand} : oK E lim (some b) dest mask (.field1 qoff qx) fr H Q = opK (aOp lim (dest.map (b + ·)) (.field1 qoff qx) (ev fr) (maskH b mask H)) fun v H' => Q v (unmaskH b mask H H') := oK_some rfl
theorem on_fieldN {qoff qn : Nat} {qx : Operand} : oK E lim none dest mask (.fieldN qoff qn qx) fr H Q = opK (aOp lim none (.fieldN qoff qn qx) (ev fr) H) Q := oK_none rfl
theorem ob_fieldN {qoff qn : Nat} {qx : Operand} : oK E lim (some b) dest mask (.fieldN qoff qn qx) fr H Q = opK (aOp lim (dest.map (b + ·)) (.fieldN qoff qn qx) (ev fr) (maskH b mask H)) fun v H' => Q v (unmaskH b mask H H') := oK_some rfl
theorem on_idxAddrA {qlen qesz : Nat} {qx qi : Operand} : oK E lim none dest mask (.idxAddrA qlen qesz qx qi) fr H Q = opK (aOp lim none (.idxAddrA qlen qesz qx qi) (ev fr) H) Q := oK_none rfl
theorem ob_idxAddrA {qlen qesz : Nat} {qx qi : Operand} : oK E lim (some b) dest mask (.idxAddrA qlen qesz qx qi) fr H Q = opK (aOp lim (dest.map (b + ·)) (.idxAddrA qlen qesz qx qi) (ev fr) (maskH b mask H)) fun v H' => Q v (unmaskH b mask H H') := oK_some rfl
theorem on_idxA {qlen qesz : Nat} {qagg : Bool} {qx qi : Operand} : oK E lim none dest mask (.idxA qlen qesz qagg qx qi) fr H Q = opK (aOp lim none (.idxA qlen qesz qagg qx qi) (ev fr) H) Q := oK_none rfl
theorem ob_idxA {qlen qesz : Nat} {qagg : Bool} {qx qi : Operand} : oK E lim (some b) dest mask (.idxA qlen qesz qagg qx qi) fr H Q = opK (aOp lim (dest.map (b + ·)) (.idxA qlen qesz qagg qx qi) (ev fr) (maskH b mask H)) fun v H' => Q v (unmaskH b mask H H') := oK_some rfl
theorem on_idxStr {qx qi : Operand} : oK E lim none dest mask (.idxStr qx qi) fr H Q = opK (aOp lim none (.idxStr qx qi) (ev fr) H) Q := oK_none rfl
theorem ob_idxStr {qx qi : Operand} : oK E lim (some b) dest mask (.idxStr qx qi) fr H Q = opK (aOp lim (dest.map (b + ·)) (.idxStr qx qi) (ev fr) (maskH b mask H)) fun v H' => Q v (unmaskH b mask H H') := oK_some rfl
theorem on_sliceS {qesz : Nat} {qx : Operand} {qlo qhi qmx : Option Operand} : oK E lim none dest mask (.sliceS qesz qx qlo qhi qmx) fr H Q = opK (aOp lim none (.sliceS qesz qx qlo qhi qmx) (ev fr) H) Q := oK_none rfl
theorem ob_sliceS {qesz : Nat} {qx : Operand} {qlo qhi qmx : Option Operand} : oK E lim (some b) dest mask (.sliceS qesz qx qlo qhi qmx) fr H Q = opK (aOp lim (dest.map (b + ·)) (.sliceS qesz qx qlo qhi qmx) (ev fr) (maskH b mask H)) fun v H' => Q v (unmaskH b mask H H') := oK_some rfl
theorem on_sliceA {qn qesz : Nat} {qx : Operand} {qlo qhi qmx : Option Operand} : oK E lim none dest mask (.sliceA qn qesz qx qlo qhi qmx) fr H Q = opK (aOp lim none (.sliceA qn qesz qx qlo qhi qmx) (ev fr) H) Q := oK_none rfl
theorem ob_sliceA {qn qesz : Nat} {qx : Operand} {qlo qhi qmx : Option Operand} : oK E lim (some b) dest mask (.sliceA qn qesz qx qlo qhi qmx) fr H Q = opK (aOp lim (dest.map (b + ·)) (.sliceA qn qesz qx qlo qhi qmx) (ev fr) (maskH b mask H)) fun v H' => Q v (unmaskH b mask H H') := oK_some rfl
theorem on_sliceStr {qx : Operand} {qlo qhi : Option Operand} : oK E lim none dest mask (.sliceStr qx qlo qhi) fr H Q = opK (aOp lim none (.sliceStr qx qlo qhi) (ev fr) H) Q := oK_none rfl
theorem ob_sliceStr {qx : Operand} {qlo qhi : Option Operand} : oK E lim (some b) dest mask (.sliceStr qx qlo qhi) fr H Q = opK (aOp lim (dest.map (b + ·)) (.sliceStr qx qlo qhi) (ev fr) (maskH b mask H)) fun v H' => Q v (unmaskH b mask H H') := oK_some rfl
theorem on_lenStr {qx : Operand} : oK E lim none dest mask (.lenStr qx) fr H Q = opK (aOp lim none (.lenStr qx) (ev fr) H) Q := oK_none rfl
theorem ob_lenStr {qx : Operand} : oK E lim (some b) dest mask (.lenStr qx) fr H Q = opK (aOp lim (dest.map (b + ·)) (.lenStr qx) (ev fr) (maskH b mask H)) fun v H' => Q v (unmaskH b mask H H') := oK_some rfl
theorem on_lenSlice {qx : Operand} : oK E lim none dest mask (.lenSlice qx) fr H Q = opK (aOp lim none (.lenSlice qx) (ev fr) H) Q := oK_none rfl
theorem ob_lenSlice {qx : Operand} : oK E lim (some b) dest mask (.lenSlice qx) fr H Q = opK (aOp lim (dest.map (b + ·)) (.lenSlice qx) (ev fr) (maskH b mask H)) fun v H' => Q v (unmaskH b mask H H') := oK_some rfl
theorem on_lenMap {qx : Operand} : oK E lim none dest mask (.lenMap qx) fr H Q = opK (aOp lim none (.lenMap qx) (ev fr) H) Q := oK_none rfl
theorem ob_lenMap {qx : Operand} : oK E lim (some b) dest mask (.lenMap qx) fr H Q = opK (aOp lim (dest.map (b + ·)) (.lenMap qx) (ev fr) (maskH b mask H)) fun v H' => Q v (unmaskH b mask H H') := oK_some rfl
theorem on_lenK {qn : Nat} : oK E lim none dest mask (.lenK qn) fr H Q = opK (aOp lim none (.lenK qn) (ev fr) H) Q := oK_none rfl
theorem ob_lenK {qn : Nat} : oK E lim (some b) dest mask (.lenK qn) fr H Q = opK (aOp lim (dest.map (b + ·)) (.lenK qn) (ev fr) (maskH b mask H)) fun v H' => Q v (unmaskH b mask H H') := oK_some rfl
theorem on_append {qesz qbytes : Nat} {qstr : Bool} {qs qx : Operand} : oK E lim none dest mask (.append qesz qbytes qstr qs qx) fr H Q = opK (aOp lim none (.append qesz qbytes qstr qs qx) (ev fr) H) Q := oK_none rfl
theorem ob_append {qesz qbytes : Nat} {qstr : Bool} {qs qx : Operand} : oK E lim (some b) dest mask (.append qesz qbytes qstr qs qx) fr H Q = opK (aOp lim (dest.map (b + ·)) (.append qesz qbytes qstr qs qx) (ev fr) (maskH b mask H)) fun v H' => Q v (unmaskH b mask H H') := oK_some rfl
theorem on_appendL {qesz qbytes : Nat} {qstr : Bool} {qs qx : Operand} : oK E lim none dest mask (.appendL qesz qbytes qstr qs qx) fr H Q = opK (aOp lim none (.appendL qesz qbytes qstr qs qx) (ev fr) H) Q := oK_none rfl
theorem ob_appendL {qesz qbytes : Nat} {qstr : Bool} {qs qx : Operand} : oK E lim (some b) dest mask (.appendL qesz qbytes qstr qs qx) fr H Q = opK (aOp lim (dest.map (b + ·)) (.appendL qesz qbytes qstr qs qx) (ev fr) (maskH b mask H)) fun v H' => Q v (unmaskH b mask H H') := oK_some rfl
theorem on_append0 {qesz qbytes : Nat} {qstr : Bool} {qs qx : Operand} : oK E lim none dest mask (.append0 qesz qbytes qstr qs qx) fr H Q = opK (aOp lim none (.append0 qesz qbytes qstr qs qx) (ev fr) H) Q := oK_none rfl
theorem ob_append0 {qesz qbytes : Nat} {qstr : Bool} {qs qx : Operand} : oK E lim (some b) dest mask (.append0 qesz qbytes qstr qs qx) fr H Q = opK (aOp lim (dest.map (b + ·)) (.append0 qesz qbytes qstr qs qx) (ev fr) (maskH b mask H)) fun v H' => Q v (unmaskH b mask H H') := oK_some rfl
theorem on_copy {qesz : Nat} {qd qx : Operand} : oK E lim none dest mask (.copy qesz qd qx) fr H Q = opK (aOp lim none (.copy qesz qd qx) (ev fr) H) Q := oK_none rfl
theorem ob_copy {qesz : Nat} {qd qx : Operand} : oK E lim (some b) dest mask (.copy qesz qd qx) fr H Q = opK (aOp lim (dest.map (b + ·)) (.copy qesz qd qx) (ev fr) (maskH b mask H)) fun v H' => Q v (unmaskH b mask H H') := oK_some rfl
theorem on_minmax {qmx : Bool} {qxs : List Operand} : oK E lim none dest mask (.minmax qmx qxs) fr H Q = opK (aOp lim none (.minmax qmx qxs) (ev fr) H) Q := oK_none rfl
theorem ob_minmax {qmx : Bool} {qxs : List Operand} : oK E lim (some b) dest mask (.minmax qmx qxs) fr H Q = opK (aOp lim (dest.map (b + ·)) (.minmax qmx qxs) (ev fr) (maskH b mask H)) fun v H' => Q v (unmaskH b mask H H') := oK_some rfl
theorem on_makeSlice {qesz qbytes : Nat} {qzero : List Value} {qlen qcap : Operand} : oK E lim none dest mask (.makeSlice qesz qbytes qzero qlen qcap) fr H Q = opK (aOp lim none (.makeSlice qesz qbytes qzero qlen qcap) (ev fr) H) Q := oK_none rfl
theorem ob_makeSlice {qesz qbytes : Nat} {qzero : List Value} {qlen qcap : Operand} : oK E lim (some b) dest mask (.makeSlice qesz qbytes qzero qlen qcap) fr H Q = opK (aOp lim (dest.map (b + ·)) (.makeSlice qesz qbytes qzero qlen qcap) (ev fr) (maskH b mask H)) fun v H' => Q v (unmaskH b mask H H') := oK_some rfl
theorem on_makeMap {qhint : Option Operand} : oK E lim none dest mask (.makeMap qhint) fr H Q = opK (aOp lim none (.makeMap qhint) (ev fr) H) Q := oK_none rfl
theorem ob_makeMap {qhint : Option Operand} : oK E lim (some b) dest mask (.makeMap qhint) fr H Q = opK (aOp lim (dest.map (b + ·)) (.makeMap qhint) (ev fr) (maskH b mask H)) fun v H' => Q v (unmaskH b mask H H') := oK_some rfl
theorem on_lookup {qkk : KK} {qzero : Value} {qok : Bool} {qm qkey : Operand} : oK E lim none dest mask (.lookup qkk qzero qok qm qkey) fr H Q = opK (aOp lim none (.lookup qkk qzero qok qm qkey) (ev fr) H) Q := oK_none rfl
theorem ob_lookup {qkk : KK} {qzero : Value} {qok : Bool} {qm qkey : Operand} : oK E lim (some b) dest mask (.lookup qkk qzero qok qm qkey) fr H Q = opK (aOp lim (dest.map (b + ·)) (.lookup qkk qzero qok qm qkey) (ev fr) (maskH b mask H)) fun v H' => Q v (unmaskH b mask H H') := oK_some rfl
theorem on_mapUpdate {qkk : KK} {qm qkey qv : Operand} : oK E lim none dest mask (.mapUpdate qkk qm qkey qv) fr H Q = opK (aOp lim none (.mapUpdate qkk qm qkey qv) (ev fr) H) Q := oK_none rfl
theorem ob_mapUpdate {qkk : KK} {qm qkey qv : Operand} : oK E lim (some b) dest mask (.mapUpdate qkk qm qkey qv) fr H Q = opK (aOp lim (dest.map (b + ·)) (.mapUpdate qkk qm qkey qv) (ev fr) (maskH b mask H)) fun v H' => Q v (unmaskH b mask H H') := oK_some rfl
theorem on_delete {qkk : KK} {qm qkey : Operand} : oK E lim none dest mask (.delete qkk qm qkey) fr H Q = opK (aOp lim none (.delete qkk qm qkey) (ev fr) H) Q := oK_none rfl
theorem ob_delete {qkk : KK} {qm qkey : Operand} : oK E lim (some b) dest mask (.delete qkk qm qkey) fr H Q = opK (aOp lim (dest.map (b + ·)) (.delete qkk qm qkey) (ev fr) (maskH b mask H)) fun v H' => Q v (unmaskH b mask H H') := oK_some rfl
theorem on_makeFunc {qf : FuncId} {qfirst qcaptured : List Operand} : oK E lim none dest mask (.makeFunc qf qfirst qcaptured) fr H Q = opK (aOp lim none (.makeFunc qf qfirst qcaptured) (ev fr) H) Q := oK_none rfl
theorem ob_makeFunc {qf : FuncId} {qfirst qcaptured : List Operand} : oK E lim (some b) dest mask (.makeFunc qf qfirst qcaptured) fr H Q = opK (aOp lim (dest.map (b + ·)) (.makeFunc qf qfirst qcaptured) (ev fr) (maskH b mask H)) fun v H' => Q v (unmaskH b mask H H') := oK_some rfl
theorem on_extract {qi : Nat} {qx : Operand} : oK E lim none dest mask (.extract qi qx) fr H Q = opK (aOp lim none (.extract qi qx) (ev fr) H) Q := oK_none rfl
theorem ob_extract {qi : Nat} {qx : Operand} : oK E lim (some b) dest mask (.extract qi qx) fr H Q = opK (aOp lim (dest.map (b + ·)) (.extract qi qx) (ev fr) (maskH b mask H)) fun v H' => Q v (unmaskH b mask H H') := oK_some rfl
theorem on_b2s {qx : Operand} : oK E lim none dest mask (.b2s qx) fr H Q = opK (aOp lim none (.b2s qx) (ev fr) H) Q := oK_none rfl
theorem ob_b2s {qx : Operand} : oK E lim (some b) dest mask (.b2s qx) fr H Q = opK (aOp lim (dest.map (b + ·)) (.b2s qx) (ev fr) (maskH b mask H)) fun v H' => Q v (unmaskH b mask H H') := oK_some rfl
theorem on_rowMark {qx : Operand} : oK E lim none dest mask (.rowMark qx) fr H Q = opK (aOp lim none (.rowMark qx) (ev fr) H) Q := oK_none rfl
theorem ob_rowMark {qx : Operand} : oK E lim (some b) dest mask (.rowMark qx) fr H Q = opK (aOp lim (dest.map (b + ·)) (.rowMark qx) (ev fr) (maskH b mask H)) fun v H' => Q v (unmaskH b mask H H') := oK_some rfl
theorem on_strId {qx : Operand} : oK E lim none dest mask (.strId qx) fr H Q = opK (aOp lim none (.strId qx) (ev fr) H) Q := oK_none rfl
theorem ob_strId {qx : Operand} : oK E lim (some b) dest mask (.strId qx) fr H Q = opK (aOp lim (dest.map (b + ·)) (.strId qx) (ev fr) (maskH b mask H)) fun v H' => Q v (unmaskH b mask H H') := oK_some rfl
end

section
variable {E : Env} {af : AFunc} {lim : Nat} {K : List AItem} {fr : Nat → Value} {H : Heap} {R : Value → Heap → Prop}
theorem Ret_is {base g o dest mask l} {d : Nat} (hd : d < af.ntmps) : Ret E af lim (.ops base (⟨some d, g, o, dest, mask⟩ :: l) :: K) fr H R =
    gK af.ntmps fr g (oK E lim base dest mask o fr H fun v H' => Ret E af lim (.ops base l :: K) (upd fr d v) H' R) (Ret E af lim (.ops base l :: K) (upd fr d undef) H R) := Ret_i (d := some d) (by simp [dOk, hd])
theorem Ret_in {base g o dest mask l} : Ret E af lim (.ops base (⟨none, g, o, dest, mask⟩ :: l) :: K) fr H R =
    gK af.ntmps fr g (oK E lim base dest mask o fr H fun v H' => Ret E af lim (.ops base l :: K) fr H' R) (Ret E af lim (.ops base l :: K) fr H R) := Ret_i (d := none) rfl
end

section
variable {E : Env} {af : AFunc} {lim : Nat} {K : List AItem} {fr : Nat → Value} {H : Heap} {R : Value → Heap → Prop}
/-- Out of a loop, at its head. -/
theorem Ret_out {id : Nat} {c b : ACode} : Ret E af lim (.code (.exit id) :: .code c :: .inLoop b :: .inBlock id :: K) fr H R = Ret E af lim K fr H R := Ret_exit (by simp [aExit])
/-- Out of a loop, from within its block. -/
theorem Ret_out2 {id id' : Nat} {c b : ACode} (h : id' ≠ id) : Ret E af lim (.code (.exit id) :: .inBlock id' :: .code c :: .inLoop b :: .inBlock id :: K) fr H R = Ret E af lim K fr H R := Ret_exit (by simp [aExit, h])
/-- On to the next round. -/
theorem Ret_next {id : Nat} {c b : ACode} : Ret E af lim (.code (.exit id) :: .inBlock id :: .code c :: .inLoop b :: K) fr H R = Ret E af lim (.code c :: .inLoop b :: K) fr H R := Ret_exit (by simp [aExit])
end

/-! ### Cases -/
section
variable {p q : Prop} {c : Prop} [Decidable c]
theorem wantK_tt : wantK (.bool true) true p q = p := by simp [wantK]
theorem wantK_ff : wantK (.bool false) false p q = p := by simp [wantK]
theorem wantK_tf : wantK (.bool true) false p q = q := by simp [wantK]
theorem wantK_ft : wantK (.bool false) true p q = q := by simp [wantK]
theorem condK_tt : condK (.bool true) p q = p := rfl
theorem condK_ff : condK (.bool false) p q = q := rfl
theorem wantK_dec {b : Bool} (h1 : c → wantK (.bool true) b p q) (h2 : ¬ c → wantK (.bool false) b p q) : wantK (.bool (decide c)) b p q := by
  by_cases h : c
  · rw [decide_eq_true h]; exact h1 h
  · rw [decide_eq_false h]; exact h2 h
theorem condK_dec (h1 : c → p) (h2 : ¬ c → q) : condK (.bool (decide c)) p q := by
  by_cases h : c
  · rw [decide_eq_true h]; exact h1 h
  · rw [decide_eq_false h]; exact h2 h
theorem wantK_any {t b : Bool} (h1 : t = true → wantK (.bool true) b p q) (h2 : t = false → wantK (.bool false) b p q) : wantK (.bool t) b p q := by
  cases t
  · exact h2 rfl
  · exact h1 rfl
theorem condK_any {t : Bool} (h1 : t = true → p) (h2 : t = false → q) : condK (.bool t) p q := by
  cases t
  · exact h2 rfl
  · exact h1 rfl
theorem int_beq {a b : Int} : (a == b) = decide (a = b) := by by_cases h : a = b <;> simp [h]
theorem int_bne {a b : Int} : (a != b) = decide (¬ a = b) := by by_cases h : a = b <;> simp [h, bne]
theorem not_dec : (!decide c) = decide (¬ c) := by by_cases h : c <;> simp [h]
end

/-! ### Composite literals, cell by cell -/
def fillV (off size : Nat) (v : Value) (c : List Value) : Option (List Value) :=
  if v.cells.toList.length = size ∧ off + size ≤ c.length ∧ notTuple v = true then some (setAll c off v.cells.toList) else none
def fillK (ρ : Operand → Value) (rest : List (Nat × Nat × Operand)) (r : Option (List Value)) : Option (List Value) := match r with | some c => fillParts ρ rest c | none => none
theorem fillParts_cons {ρ : Operand → Value} {off size : Nat} {x : Operand} {rest : List (Nat × Nat × Operand)} {c : List Value} : fillParts ρ ((off, size, x) :: rest) c = fillK ρ rest (fillV off size (ρ x) c) := by
  unfold fillK fillV
  simp only [fillParts]
  split <;> rfl
theorem fillParts_nil {ρ : Operand → Value} {c : List Value} : fillParts ρ [] c = some c := rfl
theorem fillK_some {ρ : Operand → Value} {rest : List (Nat × Nat × Operand)} {c : List Value} : fillK ρ rest (some c) = fillParts ρ rest c := rfl
theorem fillK_congr {ρ : Operand → Value} {rest : List (Nat × Nat × Operand)} {r r' : Option (List Value)} (h : r = r') : fillK ρ rest r = fillK ρ rest r' := by rw [h]
theorem fillV_congr {off size : Nat} {v v' : Value} {c : List Value} (h : v = v') : fillV off size v c = fillV off size v' c := by rw [h]
attribute [congr] fillK_congr fillV_congr
theorem fillV_one {off : Nat} {v : Value} {c : List Value} (hv : v.oneCell' = true) (ht : notTuple v = true) (h : off < c.length) : fillV off 1 v c = some (c.set off v) := by
  cases v <;> first | (simp [Value.oneCell'] at hv; done) | (simp [notTuple] at ht; done) | (unfold fillV; rw [if_pos ⟨by simp [Value.cells], h, ht⟩]; rfl)
theorem fillV_int {off : Nat} {k : IntKind} {n : Int} {c : List Value} (h : off < c.length) : fillV off 1 (.int k n) c = some (c.set off (.int k n)) := fillV_one rfl rfl h
theorem fillV_bool {off : Nat} {b : Bool} {c : List Value} (h : off < c.length) : fillV off 1 (.bool b) c = some (c.set off (.bool b)) := fillV_one rfl rfl h
theorem fillV_func {off : Nat} {f : Fn} {a b : Array Value} {c : List Value} (h : off < c.length) : fillV off 1 (.func f a b) c = some (c.set off (.func f a b)) := fillV_one rfl rfl h
theorem fillV_agg {off n : Nat} {l c : List Value} (h : l.length = n ∧ off + n ≤ c.length) : fillV off n (.agg l.toArray) c = some (setAll c off l) := by
  unfold fillV
  rw [if_pos ⟨by simpa [Value.cells] using h.1, h.2, rfl⟩]
  rfl
theorem setAll_nil {c : List Value} {o : Nat} : setAll c o [] = c := rfl
theorem setAll_cons {c : List Value} {o : Nat} {v : Value} {vs : List Value} : setAll c o (v :: vs) = setAll (c.set o v) (o + 1) vs := rfl

/-! ### Values and results -/
section
variable {fr : Nat → Value} {H : Heap}
theorem cells_agg {a : Array Value} : (Value.agg a).cells = a := rfl
theorem cells_int {k : IntKind} {n : Int} : (Value.int k n).cells = #[.int k n] := rfl
theorem cells_bool {b : Bool} : (Value.bool b).cells = #[.bool b] := rfl
theorem arr_list {l : List Value} : l.toArray.toList = l := rfl
theorem arr_size {l : List Value} : l.toArray.size = l.length := rfl
def consK : Option Value → Option (List Value) → Option (List Value)
  | some v, some vs => some (v :: vs)
  | _, _ => none
def finK : Option (List Value) → Option Value
  | some [v] => some v
  | some vs => some (.tuple vs.toArray)
  | none => none
theorem resAll_nil : resAll fr H [] = some [] := rfl
theorem resAll_cons {r : ARes} {rs : List ARes} : resAll fr H (r :: rs) = consK (resVal fr H r) (resAll fr H rs) := by
  unfold consK
  simp only [resAll]
  cases resVal fr H r <;> cases resAll fr H rs <;> rfl
theorem result_fin {rs : List ARes} : result fr H rs = finK (resAll fr H rs) := by
  unfold finK result
  cases resAll fr H rs <;> rfl
theorem consK_some {v : Value} {vs : List Value} : consK (some v) (some vs) = some (v :: vs) := rfl
theorem finK_one {v : Value} : finK (some [v]) = some v := rfl
theorem finK_more {v u : Value} {vs : List Value} : finK (some (v :: u :: vs)) = some (.tuple (v :: u :: vs).toArray) := rfl
theorem finK_nil : finK (some []) = some (.tuple #[]) := rfl
end

/-! ### Elements of slices -/
def idxK (e : Nat) (x i : Value) (H : Heap) : Option (Value × Heap) := match x, i with
    | .slice (some p) len _, .int _ n => if 0 ≤ n ∧ n < (len : Int) then some (.pointer (some (p.add (n.toNat * e))), H) else none
    | _, _ => none
theorem aOp_idxS {lim : Nat} {dest : Option Nat} {e : Nat} {x i : Operand} {ρ : Operand → Value} {H : Heap} : aOp lim dest (.idxAddrS e x i) ρ H = idxK e (ρ x) (ρ i) H := by
  simp only [aOp]; unfold idxK; rfl
theorem idxK_nat {e n len c : Nat} {p : Addr} {k : IntKind} {H : Heap} (h : n < len) : idxK e (.slice (some p) len c) (.int k (n : Int)) H = some (.pointer (some (p.add (n * e))), H) := by
  unfold idxK
  simp only
  rw [if_pos ⟨by omega, by omega⟩]
  simp
section
variable {E : Env} {lim b : Nat} {dest : Option Nat} {mask : List Nat} {fr : Nat → Value} {H : Heap} {Q : Value → Heap → Prop}
theorem on_idxAddrS {e : Nat} {x i : Operand} : oK E lim none dest mask (.idxAddrS e x i) fr H Q = opK (idxK e (ev fr x) (ev fr i) H) Q := by rw [oK_none rfl, aOp_idxS]
theorem ob_idxAddrS {e : Nat} {x i : Operand} : oK E lim (some b) dest mask (.idxAddrS e x i) fr H Q = opK (idxK e (ev fr x) (ev fr i) (maskH b mask H)) fun v H' => Q v (unmaskH b mask H H') := by rw [oK_some rfl, aOp_idxS]
end
theorem addr_add {b o n : Nat} : (⟨b, o, none⟩ : Addr).add n = ⟨b, o + n, none⟩ := by
  simp only [Addr.add]
  first | rfl | (split <;> simp_all)
theorem wrap_nat {n : Nat} (h : n + 1 < 2 ^ 63) : IntKind.i64.wrap ((n : Int) + 1) = ((n + 1 : Nat) : Int) := by
  have h1 : ((n : Int) + 1) % 2 ^ 64 = (n : Int) + 1 := Int.emod_eq_of_lt (by omega) (by omega)
  simp only [IntKind.wrap, IntKind.bits, IntKind.signed, h1]
  rw [if_neg (by simp; omega)]
  omega

/-! ### Places that are masked -/
section
variable {b i : Nat} {l : List Nat} {H H0 : Heap}
theorem mask_cons : maskH b (i :: l) H = maskH b l (H.set (b + i) .dead) := rfl
theorem unmask_cons : unmaskH b (i :: l) H0 H = unmaskH b l H0 (H.set (b + i) (hget H0 (b + i))) := rfl
theorem pad_one : List.replicate 1 Blk.dead = [.dead] := rfl
theorem pad_zero : List.replicate 0 Blk.dead = [] := rfl
theorem pad_two : List.replicate 2 Blk.dead = [.dead, .dead] := rfl
theorem pad_three : List.replicate 3 Blk.dead = [.dead, .dead, .dead] := rfl
end
end Go.AM
namespace Go.Proofs.Ytdddehniepofmaa.Fn
open Go.AM Go.AM.Sym
set_option maxRecDepth 100000

def pure : List FuncId := [3,4,5,6,7,8,9,10,11,15,24,25,26,27,32,36,39,40,41,42,43,44,48,49,51,54,55,56,58,59,61]
def pf : FuncId → Bool := fun f => pure.contains f

def l3_1 : ACode := (.seq (.ops [i 56 (.bin .lss (t 55) (t 54))]) (.seq (.cond (t 56) .skip (.exit 0)) (.seq (.block 1 (.seq (.ops [i 57 (.mov (t 55)), i 11 (.mov (t 57))]) (.seq (.drawn 0 [i 58 (.mov (t 9)), i 59 (.mov (t 11)), i 60 (.idxAddrS 1 (t 58) (t 59)), i 61 (.load1 (t 60)), i 62 (.mov (t 10)), i 63 (.mov (t 11)), i 64 (.idxAddrS 1 (t 62) (t 63)), i 65 (.load1 (t 64)), i 66 (.eqv true .bool (t 61) (t 65))]) (.cond (t 66) (.seq (.ops [i 6 (.mov (k (.bool false)))]) .ret) .skip)))) (.ops [i 67 (.bin .add (t 55) (k (.int .i64 1))), i 55 (.mov (t 67))]))))
def c3 : ACode := (.seq (.ops [i 3 (.box (t 0)), i 6 (.mov (k (.bool false)))]) (.seq (.seq (.ops [i 13 (.fieldAddr 0 (t 3)), i 14 (.load1 (t 13)), i 15 (.lenSlice (t 14)), i 16 (.bin .gtr (t 15) (k (.int .i64 200))), i 17 (.mov (t 16)), ⟨(some 18), (some (17, false)), (.fieldAddr 1 (t 3)), none, []⟩, ⟨(some 19), (some (17, false)), (.load1 (t 18)), none, []⟩, ⟨(some 20), (some (17, false)), (.lenSlice (t 19)), none, []⟩, ⟨(some 21), (some (17, false)), (.bin .gtr (t 20) (k (.int .i64 200))), none, []⟩, i 22 (.pick (t 17) (k (.bool true)) (t 21))]) (.cond (t 22) (.seq (.ops [i 23 (.call .any (.func 11) []), i 6 (.mov (t 23))]) .ret) .skip)) (.seq (.drawn 5 [⟨(some 24), none, (.buildSlice 0 [] []), (some 0), []⟩, i 25 (.fieldAddr 0 (t 3)), ⟨(some 26), none, (.load1 (t 25)), none, [0, 1, 2, 3, 4]⟩, ⟨(some 27), none, (.append0 32 32 false (t 24) (t 26)), (some 1), [2, 3, 4]⟩, ⟨(some 28), none, (.buildSlice 0 [] []), (some 2), []⟩, i 29 (.fieldAddr 1 (t 3)), ⟨(some 30), none, (.load1 (t 29)), none, [0, 1, 2, 3, 4]⟩, ⟨(some 31), none, (.append0 33 40 false (t 28) (t 30)), (some 3), [4]⟩, i 32 (.build [(.slice none 0 0), (.slice none 0 0)] [(0, (1, (t 27))), (1, (1, (t 31)))]), ⟨(some 7), none, (.alloc [(.slice none 0 0), (.slice none 0 0)]), (some 4), []⟩, ⟨none, none, (.store 2 (t 7) (t 32)), none, []⟩]) (.seq (.drawn 5 [⟨(some 33), none, (.buildSlice 0 [] []), (some 0), []⟩, i 34 (.fieldAddr 0 (t 3)), ⟨(some 35), none, (.load1 (t 34)), none, [0, 1, 2, 3, 4]⟩, ⟨(some 36), none, (.append0 32 32 false (t 33) (t 35)), (some 1), [2, 3, 4]⟩, ⟨(some 37), none, (.buildSlice 0 [] []), (some 2), []⟩, i 38 (.fieldAddr 1 (t 3)), ⟨(some 39), none, (.load1 (t 38)), none, [0, 1, 2, 3, 4]⟩, ⟨(some 40), none, (.append0 33 40 false (t 37) (t 39)), (some 3), [4]⟩, i 41 (.build [(.slice none 0 0), (.slice none 0 0)] [(0, (1, (t 36))), (1, (1, (t 40)))]), ⟨(some 8), none, (.alloc [(.slice none 0 0), (.slice none 0 0)]), (some 4), []⟩, ⟨none, none, (.store 2 (t 8) (t 41)), none, []⟩]) (.seq (.ops [i 42 (.mov (t 1)), i 43 (.mov (t 2)), i 44 (.conv .i64 (t 43)), i 45 (.call .any (.func 12) [(t 42), (t 44)]), i 46 (.mov (t 1)), i 47 (.mov (t 2)), i 48 (.conv .i64 (t 47)), i 49 (.call .any (.func 12) [(t 46), (t 48)]), i 9 (.mov (t 45)), i 10 (.mov (t 49))]) (.seq (.ops [i 50 (.mov (t 9)), i 51 (.call .any (.func 13) [(t 7), (t 50)])]) (.seq (.ops [i 52 (.call .any (.func 14) [(t 8)])]) (.seq (.seq (.ops [i 53 (.mov (t 9)), i 54 (.lenSlice (t 53)), i 55 (.mov (k (.int .i64 0)))]) (.block 0 (.loop l3_1))) (.seq (.ops [i 12 (.mov (k (.pointer none)))]) (.seq (.ops [i 68 (.mov (t 12)), i 69 (.mov (t 9)), i 70 (.call .any (.func 13) [(t 68), (t 69)])]) (.seq (.ops [i 71 (.mov (t 12)), i 72 (.call .any (.func 14) [(t 71)])]) (.seq (.ops [i 73 (.loadN 2 (t 3)), i 74 (.call .any (.func 17) [(t 73)]), i 75 (.mov (t 10)), i 76 (.call .any (.func 16) [(t 74), (t 75)]), i 77 (.call .any (.func 15) [(t 7), (t 76)]), i 78 (.mov (t 77)), ⟨(some 79), (some (78, true)), (.loadN 2 (t 3)), none, []⟩, ⟨(some 80), (some (78, true)), (.call .any (.func 17) [(t 79)]), none, []⟩, ⟨(some 81), (some (78, true)), (.call .any (.func 16) [(t 80), (k (.slice none 0 0))]), none, []⟩, ⟨(some 82), (some (78, true)), (.call .any (.func 15) [(t 8), (t 81)]), none, []⟩, i 83 (.pick (t 78) (t 82) (k (.bool false))), i 84 (.mov (t 83)), ⟨(some 85), (some (84, true)), (.call .any (.func 11) []), none, []⟩, i 86 (.pick (t 84) (t 85) (k (.bool false))), i 6 (.mov (t 86))]) .ret))))))))))))
def a3 : AFunc := ⟨87, [(.tmp 6)], c3⟩
theorem n3 : a3.ntmps = 87 := id rfl
theorem r3 : a3.results = [(.tmp 6)] := rfl
theorem b3 : a3.body = c3 := rfl
def l4_1 : ACode := (.seq (.ops [i 29 (.bin .lss (t 28) (t 27))]) (.seq (.cond (t 29) .skip (.exit 0)) (.seq (.block 1 (.seq (.ops [i 30 (.idxAddrS 1 (t 26) (t 28)), i 31 (.load1 (t 30)), i 6 (.mov (t 31))]) (.seq (.ops [i 32 (.mov (t 6)), i 33 (.lenStr (t 32)), i 34 (.bin .gtr (t 33) (k (.int .i64 1100)))]) (.cond (t 34) (.seq (.ops [i 35 (.call .any (.func 11) []), i 4 (.mov (t 35))]) .ret) .skip)))) (.ops [i 36 (.bin .add (t 28) (k (.int .i64 1))), i 28 (.mov (t 36))]))))
def c4 : ACode := (.seq (.ops [i 4 (.mov (k (.bool false)))]) (.seq (.seq (.ops [i 17 (.mov (t 0)), i 18 (.lenSlice (t 17)), i 19 (.bin .gtr (t 18) (k (.int .i64 110))), i 20 (.mov (t 19)), ⟨(some 21), (some (20, false)), (.mov (t 1)), none, []⟩, ⟨(some 22), (some (20, false)), (.lenSlice (t 21)), none, []⟩, ⟨(some 23), (some (20, false)), (.bin .gtr (t 22) (k (.int .i64 5000))), none, []⟩, i 24 (.pick (t 20) (k (.bool true)) (t 23))]) (.cond (t 24) (.seq (.ops [i 25 (.call .any (.func 11) []), i 4 (.mov (t 25))]) .ret) .skip)) (.seq (.seq (.ops [i 26 (.mov (t 0)), i 27 (.lenSlice (t 26)), i 28 (.mov (k (.int .i64 0)))]) (.block 0 (.loop l4_1))) (.seq (.ops [i 37 (.mov (t 0)), i 38 (.call .any (.func 18) [(t 37)]), i 39 (.mov (t 1)), i 40 (.call .any (.func 19) [(t 39)]), i 7 (.mov (t 38)), i 8 (.mov (t 40))]) (.seq (.ops [i 42 (.mov (t 7)), i 43 (.call .any (.func 20) [(t 42)]), i 41 (.mov (t 43)), i 44 (.extract 0 (t 41)), i 45 (.extract 1 (t 41)), i 9 (.mov (t 44)), i 10 (.mov (t 45))]) (.seq (.ops [i 47 (.mov (t 8)), i 48 (.call .any (.func 21) [(t 47)]), i 46 (.mov (t 48)), i 49 (.extract 0 (t 46)), i 50 (.extract 1 (t 46)), i 11 (.mov (t 49)), i 12 (.mov (t 50))]) (.seq (.ops [i 52 (.mov (t 0)), i 53 (.call .any (.func 22) [(t 52)]), i 51 (.mov (t 53)), i 54 (.extract 0 (t 51)), i 55 (.extract 1 (t 51)), i 13 (.mov (t 54)), i 14 (.mov (t 55))]) (.seq (.ops [i 57 (.mov (t 1)), i 58 (.call .any (.func 23) [(t 57)]), i 56 (.mov (t 58)), i 59 (.extract 0 (t 56)), i 60 (.extract 1 (t 56)), i 15 (.mov (t 59)), i 16 (.mov (t 60))]) (.seq (.ops [i 61 (.mov (t 9)), i 62 (.mov (t 13)), i 63 (.call .any (.func 24) [(t 61), (t 62)]), i 64 (.mov (t 63)), ⟨(some 65), (some (64, true)), (.mov (t 10)), none, []⟩, ⟨(some 66), (some (64, true)), (.mov (t 14)), none, []⟩, ⟨(some 67), (some (64, true)), (.bin .eql (t 65) (t 66)), none, []⟩, i 68 (.pick (t 64) (t 67) (k (.bool false))), i 69 (.mov (t 68)), ⟨(some 70), (some (69, true)), (.mov (t 11)), none, []⟩, ⟨(some 71), (some (69, true)), (.mov (t 15)), none, []⟩, ⟨(some 72), (some (69, true)), (.call .any (.func 25) [(t 70), (t 71)]), none, []⟩, i 73 (.pick (t 69) (t 72) (k (.bool false))), i 74 (.mov (t 73)), ⟨(some 75), (some (74, true)), (.mov (t 12)), none, []⟩, ⟨(some 76), (some (74, true)), (.mov (t 16)), none, []⟩, ⟨(some 77), (some (74, true)), (.bin .eql (t 75) (t 76)), none, []⟩, i 78 (.pick (t 74) (t 77) (k (.bool false))), i 79 (.mov (t 78)), ⟨(some 80), (some (79, true)), (.mov (t 7)), none, []⟩, ⟨(some 81), (some (79, true)), (.mov (t 0)), none, []⟩, ⟨(some 82), (some (79, true)), (.call .any (.func 26) [(t 80), (t 81)]), none, []⟩, i 83 (.pick (t 79) (t 82) (k (.bool false))), i 84 (.mov (t 83)), ⟨(some 85), (some (84, true)), (.mov (t 8)), none, []⟩, ⟨(some 86), (some (84, true)), (.mov (t 1)), none, []⟩, ⟨(some 87), (some (84, true)), (.call .any (.func 27) [(t 85), (t 86)]), none, []⟩, i 88 (.pick (t 84) (t 87) (k (.bool false))), i 89 (.mov (t 88)), ⟨(some 90), (some (89, true)), (.call .any (.func 11) []), none, []⟩, i 91 (.pick (t 89) (t 90) (k (.bool false))), i 4 (.mov (t 91))]) .ret)))))))))
def a4 : AFunc := ⟨92, [(.tmp 4)], c4⟩
theorem n4 : a4.ntmps = 92 := id rfl
theorem r4 : a4.results = [(.tmp 4)] := rfl
theorem b4 : a4.body = c4 := rfl
def l5_1 : ACode := (.seq (.seq (.ops [i 45 (.mov (t 13)), i 46 (.bin .mul (t 45) (k (.int .i64 18))), i 47 (.mov (t 12)), i 48 (.lenSlice (t 47)), i 49 (.bin .lss (t 46) (t 48))]) (.cond (t 49) .skip (.exit 2))) (.block 3 (.ops [i 50 (.mov (t 13)), i 51 (.bin .add (t 50) (k (.int .i64 1))), i 13 (.mov (t 51))])))
def l5_2 : ACode := (.seq (.ops [i 36 (.bin .lss (t 35) (t 34))]) (.seq (.cond (t 36) .skip (.exit 0)) (.seq (.block 1 (.seq (.ops [i 37 (.mov (t 35)), i 38 (.idxAddrS 4 (t 33) (t 35)), i 39 (.loadN 4 (t 38)), i 11 (.alloc [(.int .u8 0), (.int .u8 0), (.int .u8 0), (.int .u64 0)]), i 10 (.mov (t 37)), ⟨none, none, (.store 4 (t 11) (t 39)), none, []⟩]) (.seq (.seq (.ops [i 40 (.mov (t 10)), i 41 (.bin .eql (t 40) (k (.int .i64 30)))]) (.cond (t 41) (.exit 0) .skip)) (.seq (.ops [i 42 (.loadN 4 (t 11)), i 43 (.mov (t 10)), i 44 (.call .any (.func 29) [(t 42), (t 43)]), i 12 (.mov (t 44))]) (.seq (.ops [i 13 (.mov (k (.int .i64 1)))]) (.seq (.block 2 (.loop l5_1)) (.seq (.seq (.ops [i 52 (.fieldAddr 0 (t 11)), i 53 (.load1 (t 52)), i 54 (.bin .rem (t 53) (k (.int .u8 6))), i 55 (.bin .eql (t 54) (k (.int .u8 0)))]) (.cond (t 55) (.seq (.ops [i 56 (.mov (t 5)), i 57 (.mov (t 12)), i 58 (.call .any (.func 30) [(t 56), (t 57)]), i 14 (.mov (t 58))]) (.seq (.seq (.ops [i 59 (.mov (t 14)), i 60 (.bin .eql (t 59) (k (.int .i64 0))), i 61 (.mov (t 13)), i 62 (.mov (t 8)), i 63 (.bin .leq (t 61) (t 62)), i 64 (.eqv true .bool (t 60) (t 63)), i 65 (.mov (t 64)), ⟨(some 66), (some (65, false)), (.mov (t 14)), none, []⟩, ⟨(some 67), (some (65, false)), (.bin .neq (t 66) (k (.int .i64 0))), none, []⟩, ⟨(some 68), (some (65, false)), (.mov (t 67)), none, []⟩, ⟨(some 69), (some (68, true)), (.mov (t 14)), none, []⟩, ⟨(some 70), (some (68, true)), (.bin .neq (t 69) (k (.int .i64 4))), none, []⟩, ⟨(some 71), (some (65, false)), (.pick (t 68) (t 70) (k (.bool false))), none, []⟩, i 72 (.pick (t 65) (k (.bool true)) (t 71))]) (.cond (t 72) (.seq (.ops [i 4 (.mov (k (.bool false)))]) .ret) .skip)) (.seq (.ops [i 73 (.mov (t 14)), i 74 (.bin .eql (t 73) (k (.int .i64 0)))]) (.cond (t 74) (.ops [i 75 (.mov (t 8)), i 76 (.mov (t 13)), i 77 (.bin .sub (t 75) (t 76)), i 9 (.mov (t 77))]) .skip)))) (.seq (.ops [i 78 (.mov (t 6)), i 79 (.nilCheck (t 78)), i 80 (.fieldAddr 1 (t 79)), i 81 (.load1 (t 80)), i 82 (.lenSlice (t 81)), i 15 (.mov (t 82))]) (.seq (.ops [i 83 (.mov (t 5)), i 84 (.mov (t 12)), i 85 (.call .any (.func 31) [(t 83), (t 84)]), i 16 (.mov (t 85))]) (.seq (.seq (.ops [i 86 (.mov (t 16)), i 87 (.bin .eql (t 86) (k (.int .i64 0))), i 88 (.mov (t 13)), i 89 (.mov (t 9)), i 90 (.bin .leq (t 88) (t 89)), i 91 (.eqv true .bool (t 87) (t 90)), i 92 (.mov (t 91)), ⟨(some 93), (some (92, false)), (.mov (t 16)), none, []⟩, ⟨(some 94), (some (92, false)), (.bin .neq (t 93) (k (.int .i64 0))), none, []⟩, ⟨(some 95), (some (92, false)), (.mov (t 94)), none, []⟩, ⟨(some 96), (some (95, true)), (.mov (t 16)), none, []⟩, ⟨(some 97), (some (95, true)), (.bin .neq (t 96) (k (.int .i64 4))), none, []⟩, ⟨(some 98), (some (92, false)), (.pick (t 95) (t 97) (k (.bool false))), none, []⟩, i 99 (.pick (t 92) (k (.bool true)) (t 98))]) (.cond (t 99) (.seq (.ops [i 4 (.mov (k (.bool false)))]) .ret) .skip)) (.seq (.seq (.ops [i 100 (.mov (t 16)), i 101 (.bin .eql (t 100) (k (.int .i64 0)))]) (.cond (t 101) (.seq (.ops [i 102 (.mov (t 9)), i 103 (.mov (t 13)), i 104 (.bin .sub (t 102) (t 103)), i 9 (.mov (t 104))]) (.ops [i 105 (.mov (t 15)), i 106 (.mov (t 13)), i 107 (.bin .add (t 105) (t 106)), i 15 (.mov (t 107))])) .skip)) (.seq (.ops [i 108 (.mov (t 6)), i 109 (.nilCheck (t 108)), i 110 (.fieldAddr 1 (t 109)), i 111 (.load1 (t 110)), i 112 (.lenSlice (t 111)), i 113 (.mov (t 15)), i 114 (.bin .neq (t 112) (t 113))]) (.cond (t 114) (.seq (.ops [i 4 (.mov (k (.bool false)))]) .ret) .skip)))))))) (.seq (.ops [i 115 (.mov (t 5)), i 116 (.call .any (.func 32) [(t 115)]), i 117 (.mov (t 9)), i 118 (.bin .neq (t 116) (t 117))]) (.cond (t 118) (.seq (.ops [i 4 (.mov (k (.bool false)))]) .ret) .skip))))))))) (.ops [i 119 (.bin .add (t 35) (k (.int .i64 1))), i 35 (.mov (t 119))]))))
def c5 : ACode := (.seq (.ops [i 4 (.mov (k (.bool false)))]) (.seq (.ops [i 18 (.mov (t 0)), i 19 (.call .any (.func 28) [(t 18)]), i 17 (.mov (t 19)), i 20 (.extract 0 (t 17)), i 21 (.extract 1 (t 17)), i 22 (.extract 2 (t 17)), i 5 (.mov (t 20)), i 6 (.mov (t 21)), i 7 (.mov (t 22))]) (.seq (.seq (.ops [i 23 (.mov (t 7)), i 24 (.un .not (t 23))]) (.cond (t 24) (.seq (.ops [i 4 (.mov (k (.bool false)))]) .ret) .skip)) (.seq (.ops [i 25 (.mov (t 6)), i 26 (.nilCheck (t 25)), i 27 (.fieldAddr 0 (t 26)), i 28 (.load1 (t 27)), i 29 (.lenSlice (t 28)), i 30 (.bin .quo (t 29) (k (.int .i64 2))), i 8 (.mov (t 30))]) (.seq (.ops [i 31 (.mov (t 8)), i 32 (.bin .sub (t 31) (k (.int .i64 1))), i 9 (.mov (t 32))]) (.seq (.seq (.ops [i 33 (.mov (t 1)), i 34 (.lenSlice (t 33)), i 35 (.mov (k (.int .i64 0)))]) (.block 0 (.loop l5_2))) (.seq (.ops [i 120 (.call .any (.func 11) []), i 4 (.mov (t 120))]) .ret)))))))
def a5 : AFunc := ⟨121, [(.tmp 4)], c5⟩
theorem n5 : a5.ntmps = 121 := id rfl
theorem r5 : a5.results = [(.tmp 4)] := rfl
theorem b5 : a5.body = c5 := rfl
def l6_1 : ACode := (.seq (.seq (.ops [i 102 (.mov (t 16)), i 103 (.mov (t 6)), i 104 (.nilCheck (t 103)), i 105 (.fieldAddr 1 (t 104)), i 106 (.load1 (t 105)), i 107 (.lenSlice (t 106)), i 108 (.bin .lss (t 102) (t 107))]) (.cond (t 108) .skip (.exit 4))) (.seq (.block 5 (.seq (.ops [i 111 (.mov (t 6)), i 112 (.nilCheck (t 111)), i 113 (.fieldAddr 1 (t 112)), i 114 (.load1 (t 113)), i 115 (.mov (t 16)), i 116 (.idxAddrS 33 (t 114) (t 115)), i 117 (.fieldAddr 0 (t 116)), i 118 (.load1 (t 117)), i 119 (.mov (t 9)), i 120 (.mov (t 8)), i 121 (.bin .mul (t 119) (t 120)), i 122 (.mov (t 12)), i 123 (.bin .add (t 121) (t 122)), i 124 (.mov (t 16)), i 125 (.bin .add (t 123) (t 124)), i 126 (.mov (t 15)), i 127 (.bin .sub (t 125) (t 126)), i 128 (.bin .neq (t 118) (t 127))]) (.cond (t 128) (.seq (.ops [i 4 (.mov (k (.bool false)))]) .ret) .skip))) (.ops [i 109 (.mov (t 16)), i 110 (.bin .add (t 109) (k (.int .i64 1))), i 16 (.mov (t 110))])))
def l6_2 : ACode := (.seq (.ops [i 65 (.bin .lss (t 64) (t 63))]) (.seq (.cond (t 65) .skip (.exit 2)) (.seq (.block 3 (.seq (.ops [i 66 (.mov (t 64)), i 14 (.mov (t 66))]) (.seq (.drawn 0 [i 67 (.mov (t 14)), i 68 (.mov (t 8)), i 69 (.bin .quo (t 67) (t 68)), i 70 (.mov (t 9)), i 71 (.bin .sub (k (.int .i64 1)) (t 70)), i 72 (.bin .neq (t 69) (t 71)), i 73 (.mov (t 72)), ⟨(some 74), (some (73, true)), (.mov (t 6)), none, []⟩, ⟨(some 75), (some (73, true)), (.nilCheck (t 74)), none, []⟩, ⟨(some 76), (some (73, true)), (.fieldAddr 0 (t 75)), none, []⟩, ⟨(some 77), (some (73, true)), (.load1 (t 76)), none, []⟩, ⟨(some 78), (some (73, true)), (.mov (t 14)), none, []⟩, ⟨(some 79), (some (73, true)), (.idxAddrS 32 (t 77) (t 78)), none, []⟩, ⟨(some 80), (some (73, true)), (.loadN 32 (t 79)), none, []⟩, ⟨(some 81), (some (73, true)), (.mov (t 13)), none, []⟩, ⟨(some 82), (some (73, true)), (.mov (t 14)), none, []⟩, ⟨(some 83), (some (73, true)), (.idxAddrS 32 (t 81) (t 82)), none, []⟩, ⟨(some 84), (some (73, true)), (.loadN 32 (t 83)), none, []⟩, ⟨(some 85), (some (73, true)), (.eqv true (.agg [(.int .u8), (.int .u8), (.int .u8), (.int .u8), (.int .u8), (.int .u8), (.int .u8), (.int .u8), (.int .u8), (.int .u8), (.int .u8), (.int .u8), (.int .u8), (.int .u8), (.int .u8), (.int .u8), (.int .u8), (.int .u8), (.int .u8), (.int .u8), (.int .u8), (.int .u8), (.int .u8), (.int .u8), (.int .u8), (.int .u8), (.int .u8), (.int .u8), (.int .u8), (.int .u8), (.int .u8), (.int .u8)]) (t 80) (t 84)), none, []⟩, i 86 (.pick (t 73) (t 85) (k (.bool false)))]) (.cond (t 86) (.seq (.ops [i 4 (.mov (k (.bool false)))]) .ret) .skip)))) (.ops [i 87 (.bin .add (t 64) (k (.int .i64 1))), i 64 (.mov (t 87))]))))
def l6_3 : ACode := (.seq (.ops [i 34 (.bin .lss (t 33) (t 32))]) (.seq (.cond (t 34) .skip (.exit 0)) (.seq (.block 1 (.seq (.ops [i 35 (.mov (t 33)), i 36 (.idxAddrS 4 (t 31) (t 33)), i 37 (.loadN 4 (t 36)), i 11 (.alloc [(.int .u8 0), (.int .u8 0), (.int .u8 0), (.int .u64 0)]), i 10 (.mov (t 35)), ⟨none, none, (.store 4 (t 11) (t 37)), none, []⟩]) (.seq (.seq (.ops [i 38 (.mov (t 10)), i 39 (.bin .eql (t 38) (k (.int .i64 20)))]) (.cond (t 39) (.exit 0) .skip)) (.seq (.ops [i 40 (.mov (t 8)), i 41 (.mov (t 5)), i 42 (.call .any (.func 32) [(t 41)]), i 43 (.bin .sub (t 40) (t 42)), i 12 (.mov (t 43))]) (.seq (.seq (.ops [i 44 (.fieldAddr 0 (t 11)), i 45 (.load1 (t 44)), i 46 (.bin .rem (t 45) (k (.int .u8 4))), i 47 (.bin .eql (t 46) (k (.int .u8 0)))]) (.cond (t 47) (.seq (.ops [i 48 (.mov (t 6)), i 49 (.call .any (.func 14) [(t 48)])]) (.seq (.ops [i 50 (.buildSlice 0 [] []), i 51 (.mov (t 6)), i 52 (.nilCheck (t 51)), i 53 (.fieldAddr 0 (t 52)), i 54 (.load1 (t 53)), i 55 (.append 32 32 false (t 50) (t 54)), i 13 (.mov (t 55))]) (.seq (.seq (.ops [i 56 (.mov (t 5)), i 57 (.loadN 4 (t 11)), i 58 (.mov (t 10)), i 59 (.call .any (.func 29) [(t 57), (t 58)]), i 60 (.call .any (.func 30) [(t 56), (t 59)]), i 61 (.bin .neq (t 60) (k (.int .i64 0)))]) (.cond (t 61) (.exit 1) .skip)) (.seq (.seq (.ops [i 62 (.mov (t 13)), i 63 (.lenSlice (t 62)), i 64 (.mov (k (.int .i64 0)))]) (.block 2 (.loop l6_2))) (.seq (.ops [i 88 (.mov (t 9)), i 89 (.bin .sub (k (.int .i64 1)) (t 88)), i 9 (.mov (t 89))]) (.exit 1)))))) .skip)) (.seq (.ops [i 90 (.mov (t 6)), i 91 (.nilCheck (t 90)), i 92 (.fieldAddr 1 (t 91)), i 93 (.load1 (t 92)), i 94 (.lenSlice (t 93)), i 15 (.mov (t 94))]) (.seq (.seq (.ops [i 95 (.mov (t 5)), i 96 (.loadN 4 (t 11)), i 97 (.mov (t 10)), i 98 (.call .any (.func 29) [(t 96), (t 97)]), i 99 (.call .any (.func 31) [(t 95), (t 98)]), i 100 (.bin .neq (t 99) (k (.int .i64 0)))]) (.cond (t 100) (.exit 1) .skip)) (.seq (.ops [i 101 (.mov (t 15)), i 16 (.mov (t 101))]) (.block 4 (.loop l6_1)))))))))) (.ops [i 129 (.bin .add (t 33) (k (.int .i64 1))), i 33 (.mov (t 129))]))))
def c6 : ACode := (.seq (.ops [i 4 (.mov (k (.bool false)))]) (.seq (.ops [i 18 (.mov (t 0)), i 19 (.call .any (.func 28) [(t 18)]), i 17 (.mov (t 19)), i 20 (.extract 0 (t 17)), i 21 (.extract 1 (t 17)), i 22 (.extract 2 (t 17)), i 5 (.mov (t 20)), i 6 (.mov (t 21)), i 7 (.mov (t 22))]) (.seq (.seq (.ops [i 23 (.mov (t 7)), i 24 (.un .not (t 23))]) (.cond (t 24) (.seq (.ops [i 4 (.mov (k (.bool false)))]) .ret) .skip)) (.seq (.ops [i 25 (.mov (t 6)), i 26 (.nilCheck (t 25)), i 27 (.fieldAddr 0 (t 26)), i 28 (.load1 (t 27)), i 29 (.lenSlice (t 28)), i 30 (.bin .quo (t 29) (k (.int .i64 2))), i 8 (.mov (t 30)), i 9 (.mov (k (.int .i64 0)))]) (.seq (.seq (.ops [i 31 (.mov (t 1)), i 32 (.lenSlice (t 31)), i 33 (.mov (k (.int .i64 0)))]) (.block 0 (.loop l6_3))) (.seq (.ops [i 130 (.call .any (.func 11) []), i 4 (.mov (t 130))]) .ret))))))
def a6 : AFunc := ⟨131, [(.tmp 4)], c6⟩
theorem n6 : a6.ntmps = 131 := id rfl
theorem r6 : a6.results = [(.tmp 4)] := rfl
theorem b6 : a6.body = c6 := rfl
def l7_1 : ACode := (.seq (.ops [i 35 (.bin .lss (t 34) (t 33))]) (.seq (.cond (t 35) .skip (.exit 2)) (.seq (.block 3 (.seq (.ops [i 36 (.mov (t 34)), i 37 (.idxAddrS 1 (t 32) (t 34)), i 38 (.load1 (t 37)), i 10 (.mov (t 36)), i 11 (.mov (t 38))]) (.seq (.seq (.ops [i 39 (.mov (t 10)), i 40 (.bin .eql (t 39) (k (.int .i64 40)))]) (.cond (t 40) (.exit 2) .skip)) (.seq (.seq (.ops [i 41 (.mov (t 11)), i 42 (.lenStr (t 41)), i 43 (.bin .gtr (t 42) (k (.int .i64 30)))]) (.cond (t 43) (.ops [i 44 (.mov (t 11)), i 45 (.sliceStr (t 44) none (some (k (.int .i64 30)))), i 11 (.mov (t 45))]) .skip)) (.ops [i 46 (.mov (t 8)), i 47 (.mov (t 8)), i 48 (.idxAddrA 2 1 (t 7) (t 47)), i 49 (.load1 (t 48)), i 50 (.mov (t 11)), i 51 (.buildSlice 1 [(.string ⟨#[]⟩)] [(0, (1, (t 50)))]), i 52 (.append 1 16 false (t 49) (t 51)), i 53 (.idxAddrA 2 1 (t 7) (t 46)), ⟨none, none, (.store 1 (t 53) (t 52)), none, []⟩]))))) (.ops [i 54 (.bin .add (t 34) (k (.int .i64 1))), i 34 (.mov (t 54))]))))
def l7_2 : ACode := (.seq (.ops [i 28 (.bin .lss (t 27) (t 26))]) (.seq (.cond (t 28) .skip (.exit 0)) (.seq (.block 1 (.seq (.ops [i 29 (.mov (t 27)), i 30 (.idxAddrS 1 (t 25) (t 27)), i 31 (.load1 (t 30)), i 8 (.mov (t 29)), i 9 (.mov (t 31))]) (.seq (.ops [i 32 (.mov (t 9)), i 33 (.lenSlice (t 32)), i 34 (.mov (k (.int .i64 0)))]) (.block 2 (.loop l7_1))))) (.ops [i 55 (.bin .add (t 27) (k (.int .i64 1))), i 27 (.mov (t 55))]))))
def c7 : ACode := (.seq (.ops [i 6 (.mov (k (.bool false)))]) (.seq (.ops [i 7 (.alloc [(.slice none 0 0), (.slice none 0 0)])]) (.seq (.seq (.ops [i 23 (.mov (t 0)), i 24 (.mov (t 1)), i 25 (.buildSlice 2 [(.slice none 0 0), (.slice none 0 0)] [(0, (1, (t 23))), (1, (1, (t 24)))]), i 26 (.lenSlice (t 25)), i 27 (.mov (k (.int .i64 0)))]) (.block 0 (.loop l7_2))) (.seq (.ops [i 57 (.idxAddrA 2 1 (t 7) (k (.int .i64 0))), i 58 (.load1 (t 57)), i 59 (.call .any (.func 20) [(t 58)]), i 56 (.mov (t 59)), i 60 (.extract 0 (t 56)), i 61 (.extract 1 (t 56)), i 12 (.mov (t 60)), i 13 (.mov (t 61))]) (.seq (.ops [i 63 (.idxAddrA 2 1 (t 7) (k (.int .i64 1))), i 64 (.load1 (t 63)), i 65 (.call .any (.func 20) [(t 64)]), i 62 (.mov (t 65)), i 66 (.extract 0 (t 62)), i 67 (.extract 1 (t 62)), i 14 (.mov (t 66)), i 15 (.mov (t 67))]) (.seq (.ops [i 69 (.mov (t 12)), i 70 (.call .any (.func 21) [(t 69)]), i 68 (.mov (t 70)), i 71 (.extract 0 (t 68)), i 72 (.extract 1 (t 68)), i 16 (.mov (t 71)), i 17 (.mov (t 72))]) (.seq (.seq (.drawn 0 [i 73 (.mov (t 13)), i 74 (.mov (t 15)), i 75 (.bin .add (t 73) (t 74)), i 76 (.mov (t 17)), i 77 (.bin .add (t 75) (t 76)), i 78 (.bin .neq (t 77) (k (.int .i64 0))), i 79 (.mov (t 78)), ⟨(some 80), (some (79, false)), (.mov (t 16)), none, []⟩, ⟨(some 81), (some (79, false)), (.idxAddrA 2 1 (t 7) (k (.int .i64 0))), none, []⟩, ⟨(some 82), (some (79, false)), (.load1 (t 81)), none, []⟩, ⟨(some 83), (some (79, false)), (.call .pure (.func 25) [(t 80), (t 82)]), none, []⟩, ⟨(some 84), (some (79, false)), (.un .not (t 83)), none, []⟩, i 85 (.pick (t 79) (k (.bool true)) (t 84)), i 86 (.mov (t 85)), ⟨(some 87), (some (86, false)), (.mov (t 12)), none, []⟩, ⟨(some 88), (some (86, false)), (.mov (t 14)), none, []⟩, ⟨(some 89), (some (86, false)), (.call .pure (.func 24) [(t 87), (t 88)]), none, []⟩, ⟨(some 90), (some (86, false)), (.idxAddrA 2 1 (t 7) (k (.int .i64 0))), none, []⟩, ⟨(some 91), (some (86, false)), (.load1 (t 90)), none, []⟩, ⟨(some 92), (some (86, false)), (.idxAddrA 2 1 (t 7) (k (.int .i64 1))), none, []⟩, ⟨(some 93), (some (86, false)), (.load1 (t 92)), none, []⟩, ⟨(some 94), (some (86, false)), (.call .pure (.func 25) [(t 91), (t 93)]), none, []⟩, ⟨(some 95), (some (86, false)), (.eqv true .bool (t 89) (t 94)), none, []⟩, i 96 (.pick (t 86) (k (.bool true)) (t 95))]) (.cond (t 96) (.seq (.ops [i 6 (.mov (k (.bool false)))]) .ret) .skip)) (.seq (.seq (.ops [i 97 (.mov (t 2)), i 98 (.conv .i64 (t 97)), i 99 (.mov (t 12)), i 100 (.lenSlice (t 99)), i 101 (.bin .add (t 100) (k (.int .i64 1))), i 102 (.bin .rem (t 98) (t 101)), i 18 (.mov (t 102))]) (.seq (.ops [i 103 (.mov (t 18)), i 104 (.mov (t 12)), i 105 (.lenSlice (t 104)), i 106 (.bin .lss (t 103) (t 105))]) (.cond (t 106) (.seq (.ops [i 108 (.mov (t 12)), i 109 (.mov (t 18)), i 110 (.sliceS 1 (t 108) none (some (t 109)) none), i 111 (.call .any (.func 21) [(t 110)]), i 107 (.mov (t 111)), i 112 (.extract 0 (t 107)), i 113 (.extract 1 (t 107)), i 19 (.mov (t 112)), i 20 (.mov (t 113))]) (.seq (.ops [i 114 (.mov (t 20)), i 115 (.bin .eql (t 114) (k (.int .i64 0))), i 116 (.mov (t 115)), ⟨(some 117), (some (116, true)), (.mov (t 19)), none, []⟩, ⟨(some 118), (some (116, true)), (.lenSlice (t 117)), none, []⟩, ⟨(some 119), (some (116, true)), (.idxAddrA 2 1 (t 7) (k (.int .i64 0))), none, []⟩, ⟨(some 120), (some (116, true)), (.load1 (t 119)), none, []⟩, ⟨(some 121), (some (116, true)), (.lenSlice (t 120)), none, []⟩, ⟨(some 122), (some (116, true)), (.bin .geq (t 118) (t 121)), none, []⟩, ⟨(some 123), (some (116, true)), (.mov (t 122)), none, []⟩, ⟨(some 124), (some (123, false)), (.mov (t 19)), none, []⟩, ⟨(some 125), (some (123, false)), (.idxAddrA 2 1 (t 7) (k (.int .i64 0))), none, []⟩, ⟨(some 126), (some (123, false)), (.load1 (t 125)), none, []⟩, ⟨(some 127), (some (123, false)), (.mov (t 19)), none, []⟩, ⟨(some 128), (some (123, false)), (.lenSlice (t 127)), none, []⟩, ⟨(some 129), (some (123, false)), (.sliceS 1 (t 126) none (some (t 128)) none), none, []⟩, ⟨(some 130), (some (123, false)), (.call .any (.func 25) [(t 124), (t 129)]), none, []⟩, ⟨(some 131), (some (123, false)), (.un .not (t 130)), none, []⟩, ⟨(some 132), (some (116, true)), (.pick (t 123) (k (.bool true)) (t 131)), none, []⟩, i 133 (.pick (t 116) (t 132) (k (.bool false))), i 134 (.mov (t 133)), ⟨(some 135), (some (134, false)), (.mov (t 20)), none, []⟩, ⟨(some 136), (some (134, false)), (.bin .neq (t 135) (k (.int .i64 0))), none, []⟩, ⟨(some 137), (some (134, false)), (.mov (t 136)), none, []⟩, ⟨(some 138), (some (137, true)), (.mov (t 20)), none, []⟩, ⟨(some 139), (some (137, true)), (.bin .neq (t 138) (k (.int .i64 421))), none, []⟩, ⟨(some 140), (some (134, false)), (.pick (t 137) (t 139) (k (.bool false))), none, []⟩, i 141 (.pick (t 134) (k (.bool true)) (t 140))]) (.cond (t 141) (.seq (.ops [i 6 (.mov (k (.bool false)))]) .ret) .skip))) .skip))) (.seq (.ops [i 143 (.buildSlice 0 [] []), i 144 (.mov (t 12)), i 145 (.append 1 1 false (t 143) (t 144)), i 146 (.buildSlice 1 [(.int .u8 0)] [(0, (1, (k (.int .u8 0))))]), i 147 (.append 1 1 false (t 145) (t 146)), i 148 (.call .any (.func 21) [(t 147)]), i 142 (.mov (t 148)), i 149 (.extract 0 (t 142)), i 150 (.extract 1 (t 142)), i 21 (.mov (t 149)), i 22 (.mov (t 150))]) (.seq (.ops [i 151 (.mov (t 22)), i 152 (.bin .eql (t 151) (k (.int .i64 421))), i 153 (.mov (t 152)), ⟨(some 154), (some (153, true)), (.call .any (.func 11) []), none, []⟩, i 155 (.pick (t 153) (t 154) (k (.bool false))), i 6 (.mov (t 155))]) .ret))))))))))
def a7 : AFunc := ⟨156, [(.tmp 6)], c7⟩
theorem n7 : a7.ntmps = 156 := id rfl
theorem r7 : a7.results = [(.tmp 6)] := rfl
theorem b7 : a7.body = c7 := rfl
def l8_1 : ACode := (.seq (.ops [i 42 (.bin .lss (t 41) (t 40))]) (.seq (.cond (t 42) .skip (.exit 0)) (.seq (.block 1 (.seq (.ops [i 43 (.mov (t 41)), i 44 (.idxAddrS 4 (t 39) (t 41)), i 45 (.loadN 4 (t 44)), i 11 (.alloc [(.int .u8 0), (.int .u8 0), (.int .u8 0), (.int .u64 0)]), i 10 (.mov (t 43)), ⟨none, none, (.store 4 (t 11) (t 45)), none, []⟩]) (.seq (.seq (.ops [i 46 (.mov (t 10)), i 47 (.bin .eql (t 46) (k (.int .i64 30)))]) (.cond (t 47) (.exit 0) .skip)) (.seq (.ops [i 48 (.loadN 4 (t 11)), i 49 (.mov (t 10)), i 50 (.call .any (.func 29) [(t 48), (t 49)]), i 12 (.mov (t 50))]) (.seq (.seq (.ops [i 51 (.fieldAddr 0 (t 11)), i 52 (.load1 (t 51)), i 53 (.bin .rem (t 52) (k (.int .u8 8)))]) (.block 2 (.seq (.seq (.ops [i 55 (.bin .eql (t 53) (k (.int .u8 0))), i 54 (.mov (t 55))]) (.cond (t 54) .skip (.seq (.ops [i 56 (.bin .eql (t 53) (k (.int .u8 1))), i 54 (.mov (t 56))]) (.cond (t 54) .skip (.seq (.ops [i 57 (.bin .eql (t 53) (k (.int .u8 2))), i 54 (.mov (t 57))]) (.cond (t 54) .skip (.ops [i 58 (.bin .eql (t 53) (k (.int .u8 3))), i 54 (.mov (t 58))]))))))) (.cond (t 54) (.seq (.ops [i 59 (.mov (t 5)), i 60 (.mov (t 12)), i 61 (.call .any (.func 31) [(t 59), (t 60)]), i 13 (.mov (t 61))]) (.seq (.ops [i 62 (.mov (t 13)), i 63 (.bin .eql (t 62) (k (.int .i64 0)))]) (.cond (t 63) (.ops [i 64 (.mov (t 8)), i 65 (.mov (t 12)), i 66 (.buildSlice 1 [(.slice none 0 0)] [(0, (1, (t 65)))]), i 67 (.append 1 24 false (t 64) (t 66)), i 8 (.mov (t 67))]) (.seq (.ops [i 68 (.mov (t 13)), i 69 (.bin .neq (t 68) (k (.int .i64 4)))]) (.cond (t 69) (.seq (.ops [i 4 (.mov (k (.bool false)))]) .ret) .skip))))) (.seq (.ops [i 71 (.bin .eql (t 53) (k (.int .u8 4))), i 70 (.mov (t 71))]) (.cond (t 70) (.seq (.seq (.ops [i 72 (.mov (t 5)), i 73 (.call .any (.func 34) [(t 72)]), i 74 (.bin .neq (t 73) (k (.int .i64 0)))]) (.cond (t 74) (.seq (.ops [i 4 (.mov (k (.bool false)))]) .ret) .skip)) (.ops [i 75 (.mov (t 8)), i 76 (.lenSlice (t 75)), i 9 (.mov (t 76))])) (.seq (.ops [i 78 (.bin .eql (t 53) (k (.int .u8 5))), i 77 (.mov (t 78))]) (.cond (t 77) (.seq (.ops [i 79 (.mov (t 5)), i 80 (.mov (t 12)), i 81 (.call .any (.func 30) [(t 79), (t 80)]), i 14 (.mov (t 81))]) (.seq (.ops [i 82 (.mov (t 14)), i 83 (.bin .eql (t 82) (k (.int .i64 0)))]) (.cond (t 83) (.ops [i 84 (.mov (t 12)), i 85 (.buildSlice 1 [(.slice none 0 0)] [(0, (1, (t 84)))]), i 8 (.mov (t 85)), i 9 (.mov (k (.int .i64 1)))]) (.seq (.ops [i 86 (.mov (t 14)), i 87 (.bin .neq (t 86) (k (.int .i64 4)))]) (.cond (t 87) (.seq (.ops [i 4 (.mov (k (.bool false)))]) .ret) .skip))))) (.seq (.seq (.ops [i 89 (.bin .eql (t 53) (k (.int .u8 6))), i 88 (.mov (t 89))]) (.cond (t 88) .skip (.ops [i 90 (.bin .eql (t 53) (k (.int .u8 7))), i 88 (.mov (t 90))]))) (.cond (t 88) (.seq (.drawn 0 [i 91 (.mov (t 6)), i 92 (.fieldAddr 3 (t 11)), i 93 (.load1 (t 92)), i 94 (.mov (t 6)), i 95 (.nilCheck (t 94)), i 96 (.fieldAddr 1 (t 95)), i 97 (.load1 (t 96)), i 98 (.lenSlice (t 97)), i 99 (.call .any (.func 12) [(t 93), (t 98)]), i 100 (.call .any (.func 13) [(t 91), (t 99)])]) (.seq (.ops [i 15 (.mov (k (.int .i64 0)))]) (.seq (.ops [i 102 (.mov (t 6)), i 103 (.call .any (.func 35) [(t 102)]), i 101 (.mov (t 103)), i 104 (.extract 0 (t 101)), i 105 (.extract 1 (t 101)), i 5 (.mov (t 104)), i 15 (.mov (t 105))]) (.seq (.seq (.ops [i 106 (.mov (t 15)), i 107 (.bin .neq (t 106) (k (.int .i64 0)))]) (.cond (t 107) (.seq (.ops [i 4 (.mov (k (.bool false)))]) .ret) .skip)) (.seq (.ops [i 108 (.mov (t 5)), i 109 (.call .any (.func 33) [(t 108)]), i 16 (.mov (t 109))]) (.seq (.seq (.ops [i 110 (.mov (t 16)), i 111 (.lenSlice (t 110)), i 112 (.mov (t 9)), i 113 (.bin .lss (t 111) (t 112)), i 114 (.mov (t 113)), ⟨(some 115), (some (114, false)), (.mov (t 16)), none, []⟩, ⟨(some 116), (some (114, false)), (.lenSlice (t 115)), none, []⟩, ⟨(some 117), (some (114, false)), (.mov (t 8)), none, []⟩, ⟨(some 118), (some (114, false)), (.lenSlice (t 117)), none, []⟩, ⟨(some 119), (some (114, false)), (.bin .gtr (t 116) (t 118)), none, []⟩, i 120 (.pick (t 114) (k (.bool true)) (t 119))]) (.cond (t 120) (.seq (.ops [i 4 (.mov (k (.bool false)))]) .ret) .skip)) (.ops [i 121 (.mov (t 8)), i 122 (.mov (t 16)), i 123 (.lenSlice (t 122)), i 124 (.sliceS 1 (t 121) none (some (t 123)) none), i 125 (.mov (t 16)), i 126 (.lenSlice (t 125)), i 8 (.mov (t 124)), i 9 (.mov (t 126))]))))))) .skip)))))))))) (.seq (.ops [i 127 (.mov (t 5)), i 128 (.call .any (.func 33) [(t 127)]), i 129 (.mov (t 8)), i 130 (.call .any (.func 36) [(t 128), (t 129)]), i 131 (.un .not (t 130))]) (.cond (t 131) (.seq (.ops [i 4 (.mov (k (.bool false)))]) .ret) .skip))))))) (.ops [i 132 (.bin .add (t 41) (k (.int .i64 1))), i 41 (.mov (t 132))]))))
def c8 : ACode := (.seq (.ops [i 4 (.mov (k (.bool false)))]) (.seq (.seq (.ops [i 17 (.call .any (.func 11) []), i 18 (.un .not (t 17))]) (.cond (t 18) (.seq (.ops [i 4 (.mov (k (.bool false)))]) .ret) .skip)) (.seq (.ops [i 20 (.mov (t 0)), i 21 (.call .any (.func 28) [(t 20)]), i 19 (.mov (t 21)), i 22 (.extract 0 (t 19)), i 23 (.extract 1 (t 19)), i 24 (.extract 2 (t 19)), i 5 (.mov (t 22)), i 6 (.mov (t 23)), i 7 (.mov (t 24))]) (.seq (.seq (.ops [i 25 (.mov (t 7)), i 26 (.un .not (t 25))]) (.cond (t 26) (.seq (.ops [i 4 (.mov (k (.bool false)))]) .ret) .skip)) (.seq (.ops [i 27 (.mov (t 5)), i 28 (.call .any (.func 33) [(t 27)]), i 8 (.mov (t 28)), i 9 (.mov (k (.int .i64 1)))]) (.seq (.seq (.ops [i 29 (.mov (t 8)), i 30 (.lenSlice (t 29)), i 31 (.bin .neq (t 30) (k (.int .i64 1))), i 32 (.mov (t 31)), ⟨(some 33), (some (32, false)), (.mov (t 8)), none, []⟩, ⟨(some 34), (some (32, false)), (.idxAddrS 1 (t 33) (k (.int .i64 0))), none, []⟩, ⟨(some 35), (some (32, false)), (.load1 (t 34)), none, []⟩, ⟨(some 36), (some (32, false)), (.lenSlice (t 35)), none, []⟩, ⟨(some 37), (some (32, false)), (.bin .neq (t 36) (k (.int .i64 0))), none, []⟩, i 38 (.pick (t 32) (k (.bool true)) (t 37))]) (.cond (t 38) (.seq (.ops [i 4 (.mov (k (.bool false)))]) .ret) .skip)) (.seq (.seq (.ops [i 39 (.mov (t 1)), i 40 (.lenSlice (t 39)), i 41 (.mov (k (.int .i64 0)))]) (.block 0 (.loop l8_1))) (.seq (.ops [i 4 (.mov (k (.bool true)))]) .ret))))))))
def a8 : AFunc := ⟨133, [(.tmp 4)], c8⟩
theorem n8 : a8.ntmps = 133 := id rfl
theorem r8 : a8.results = [(.tmp 4)] := rfl
theorem b8 : a8.body = c8 := rfl
def l9_1 : ACode := (.seq (.ops [i 103 (.bin .lss (t 102) (t 101))]) (.seq (.cond (t 103) .skip (.exit 2)) (.seq (.block 3 (.seq (.ops [i 104 (.mov (t 102)), i 21 (.mov (t 104))]) (.seq (.drawn 0 [i 105 (.mov (t 10)), i 106 (.nilCheck (t 105)), i 107 (.fieldAddr 0 (t 106)), i 108 (.load1 (t 107)), i 109 (.mov (t 21)), i 110 (.idxAddrS 32 (t 108) (t 109)), i 111 (.loadN 32 (t 110)), i 112 (.mov (t 20)), i 113 (.nilCheck (t 112)), i 114 (.fieldAddr 0 (t 113)), i 115 (.load1 (t 114)), i 116 (.mov (t 21)), i 117 (.idxAddrS 32 (t 115) (t 116)), i 118 (.loadN 32 (t 117)), i 119 (.eqv true (.agg [(.int .u8), (.int .u8), (.int .u8), (.int .u8), (.int .u8), (.int .u8), (.int .u8), (.int .u8), (.int .u8), (.int .u8), (.int .u8), (.int .u8), (.int .u8), (.int .u8), (.int .u8), (.int .u8), (.int .u8), (.int .u8), (.int .u8), (.int .u8), (.int .u8), (.int .u8), (.int .u8), (.int .u8), (.int .u8), (.int .u8), (.int .u8), (.int .u8), (.int .u8), (.int .u8), (.int .u8), (.int .u8)]) (t 111) (t 118))]) (.cond (t 119) (.drawn 2 [i 120 (.mov (t 17)), i 121 (.mov (t 17)), i 122 (.nilCheck (t 121)), i 123 (.fieldAddr 1 (t 122)), ⟨(some 124), none, (.load1 (t 123)), none, [0, 1]⟩, i 125 (.mov (t 21)), i 126 (.mov (t 10)), i 127 (.nilCheck (t 126)), i 128 (.fieldAddr 0 (t 127)), ⟨(some 129), none, (.load1 (t 128)), none, [0, 1]⟩, i 130 (.mov (t 21)), i 131 (.idxAddrS 32 (t 129) (t 130)), ⟨(some 132), none, (.loadN 32 (t 131)), none, [0, 1]⟩, i 133 (.build [(.int .i64 0), (.int .u8 0), (.int .u8 0), (.int .u8 0), (.int .u8 0), (.int .u8 0), (.int .u8 0), (.int .u8 0), (.int .u8 0), (.int .u8 0), (.int .u8 0), (.int .u8 0), (.int .u8 0), (.int .u8 0), (.int .u8 0), (.int .u8 0), (.int .u8 0), (.int .u8 0), (.int .u8 0), (.int .u8 0), (.int .u8 0), (.int .u8 0), (.int .u8 0), (.int .u8 0), (.int .u8 0), (.int .u8 0), (.int .u8 0), (.int .u8 0), (.int .u8 0), (.int .u8 0), (.int .u8 0), (.int .u8 0), (.int .u8 0)] [(0, (1, (t 125))), (1, (32, (t 132)))]), ⟨(some 134), none, (.buildSlice 1 [(.int .i64 0), (.int .u8 0), (.int .u8 0), (.int .u8 0), (.int .u8 0), (.int .u8 0), (.int .u8 0), (.int .u8 0), (.int .u8 0), (.int .u8 0), (.int .u8 0), (.int .u8 0), (.int .u8 0), (.int .u8 0), (.int .u8 0), (.int .u8 0), (.int .u8 0), (.int .u8 0), (.int .u8 0), (.int .u8 0), (.int .u8 0), (.int .u8 0), (.int .u8 0), (.int .u8 0), (.int .u8 0), (.int .u8 0), (.int .u8 0), (.int .u8 0), (.int .u8 0), (.int .u8 0), (.int .u8 0), (.int .u8 0), (.int .u8 0)] [(0, (33, (t 133)))]), (some 0), []⟩, ⟨(some 135), none, (.append 33 40 false (t 124) (t 134)), (some 1), []⟩, i 136 (.nilCheck (t 120)), i 137 (.fieldAddr 1 (t 136)), ⟨none, none, (.store 1 (t 137) (t 135)), none, []⟩]) .skip)))) (.ops [i 138 (.bin .add (t 102) (k (.int .i64 1))), i 102 (.mov (t 138))]))))
def l9_2 : ACode := (.seq (.ops [i 41 (.bin .lss (t 40) (t 39))]) (.seq (.cond (t 41) .skip (.exit 0)) (.seq (.block 1 (.seq (.ops [i 42 (.mov (t 40)), i 43 (.idxAddrS 4 (t 38) (t 40)), i 44 (.loadN 4 (t 43)), i 15 (.alloc [(.int .u8 0), (.int .u8 0), (.int .u8 0), (.int .u64 0)]), i 14 (.mov (t 42)), ⟨none, none, (.store 4 (t 15) (t 44)), none, []⟩]) (.seq (.seq (.ops [i 45 (.mov (t 14)), i 46 (.bin .eql (t 45) (k (.int .i64 12)))]) (.cond (t 46) (.exit 0) .skip)) (.seq (.ops [i 47 (.loadN 4 (t 15)), i 48 (.mov (t 14)), i 49 (.call .any (.func 29) [(t 47), (t 48)]), i 16 (.mov (t 49))]) (.seq (.seq (.ops [i 50 (.mov (t 9)), i 51 (.mov (t 16)), i 52 (.call .any (.func 31) [(t 50), (t 51)]), i 53 (.bin .eql (t 52) (k (.int .i64 0)))]) (.cond (t 53) (.ops [i 54 (.mov (t 12)), i 55 (.mov (t 16)), i 56 (.buildSlice 1 [(.slice none 0 0)] [(0, (1, (t 55)))]), i 57 (.append 1 24 false (t 54) (t 56)), i 12 (.mov (t 57))]) .skip)) (.seq (.ops [i 58 (.fieldAddr 0 (t 15)), i 59 (.load1 (t 58)), i 60 (.bin .rem (t 59) (k (.int .u8 3))), i 61 (.bin .eql (t 60) (k (.int .u8 0)))]) (.cond (t 61) (.seq (.seq (.ops [i 62 (.mov (t 9)), i 63 (.call .any (.func 34) [(t 62)]), i 64 (.bin .neq (t 63) (k (.int .i64 0)))]) (.cond (t 64) (.seq (.ops [i 8 (.mov (k (.bool false)))]) .ret) .skip)) (.ops [i 65 (.mov (t 12)), i 66 (.lenSlice (t 65)), i 13 (.mov (t 66))])) .skip))))))) (.ops [i 67 (.bin .add (t 40) (k (.int .i64 1))), i 40 (.mov (t 67))]))))
def c9 : ACode := (.seq (.ops [i 6 (.box (t 2)), i 8 (.mov (k (.bool false)))]) (.seq (.ops [i 29 (.mov (t 0)), i 30 (.call .any (.func 28) [(t 29)]), i 28 (.mov (t 30)), i 31 (.extract 0 (t 28)), i 32 (.extract 1 (t 28)), i 33 (.extract 2 (t 28)), i 9 (.mov (t 31)), i 10 (.mov (t 32)), i 11 (.mov (t 33))]) (.seq (.seq (.ops [i 34 (.mov (t 11)), i 35 (.un .not (t 34))]) (.cond (t 35) (.seq (.ops [i 8 (.mov (k (.bool false)))]) .ret) .skip)) (.seq (.ops [i 36 (.mov (t 9)), i 37 (.call .any (.func 33) [(t 36)]), i 12 (.mov (t 37)), i 13 (.mov (k (.int .i64 1)))]) (.seq (.seq (.ops [i 38 (.mov (t 1)), i 39 (.lenSlice (t 38)), i 40 (.mov (k (.int .i64 0)))]) (.block 0 (.loop l9_2))) (.seq (.drawn 0 [i 68 (.mov (t 10)), i 70 (.loadN 4 (t 6)), i 69 (.call .mk (.func 37) [(t 68)]), i 71 (.call .any (.func 29) [(t 70), (k (.int .i64 99))]), i 17 (.mov (t 69)), i 18 (.mov (t 71))]) (.seq (.seq (.ops [i 72 (.mov (t 9)), i 73 (.mov (t 18)), i 74 (.call .any (.func 30) [(t 72), (t 73)]), i 19 (.mov (t 74))]) (.seq (.ops [i 75 (.mov (t 19)), i 76 (.bin .neq (t 75) (k (.int .i64 0)))]) (.cond (t 76) (.seq (.ops [i 77 (.mov (t 19)), i 78 (.bin .eql (t 77) (k (.int .i64 4))), i 79 (.mov (t 78)), ⟨(some 80), (some (79, true)), (.call .any (.func 11) []), none, []⟩, i 81 (.pick (t 79) (t 80) (k (.bool false))), i 8 (.mov (t 81))]) .ret) .skip))) (.seq (.ops [i 82 (.mov (t 17)), i 83 (.call .any (.func 37) [(t 82)]), i 20 (.mov (t 83))]) (.seq (.ops [i 84 (.mov (t 20)), i 85 (.call .any (.func 14) [(t 84)])]) (.seq (.seq (.drawn 0 [i 86 (.mov (t 20)), i 87 (.nilCheck (t 86)), i 88 (.fieldAddr 0 (t 87)), i 89 (.load1 (t 88)), i 90 (.lenSlice (t 89)), i 91 (.mov (t 10)), i 92 (.nilCheck (t 91)), i 93 (.fieldAddr 0 (t 92)), i 94 (.load1 (t 93)), i 95 (.lenSlice (t 94)), i 96 (.bin .neq (t 90) (t 95))]) (.cond (t 96) (.seq (.ops [i 8 (.mov (k (.bool false)))]) .ret) .skip)) (.seq (.seq (.ops [i 97 (.mov (t 10)), i 98 (.nilCheck (t 97)), i 99 (.fieldAddr 0 (t 98)), i 100 (.load1 (t 99)), i 101 (.lenSlice (t 100)), i 102 (.mov (k (.int .i64 0)))]) (.block 2 (.loop l9_1))) (.seq (.ops [i 139 (.mov (t 17)), i 140 (.call .any (.func 37) [(t 139)]), i 22 (.mov (t 140))]) (.seq (.ops [i 141 (.mov (t 22)), i 142 (.call .any (.func 14) [(t 141)])]) (.seq (.ops [i 143 (.mov (t 17)), i 144 (.mov (t 3)), i 145 (.mov (t 17)), i 146 (.nilCheck (t 145)), i 147 (.fieldAddr 1 (t 146)), i 148 (.load1 (t 147)), i 149 (.lenSlice (t 148)), i 150 (.call .any (.func 12) [(t 144), (t 149)]), i 151 (.call .any (.func 13) [(t 143), (t 150)])]) (.seq (.ops [i 153 (.mov (t 17)), i 154 (.call .any (.func 35) [(t 153)]), i 152 (.mov (t 154)), i 155 (.extract 0 (t 152)), i 156 (.extract 1 (t 152)), i 23 (.mov (t 155)), i 24 (.mov (t 156))]) (.seq (.ops [i 158 (.mov (t 22)), i 159 (.call .any (.func 35) [(t 158)]), i 157 (.mov (t 159)), i 160 (.extract 0 (t 157)), i 161 (.extract 1 (t 157)), i 25 (.mov (t 160)), i 26 (.mov (t 161))]) (.seq (.seq (.ops [i 162 (.mov (t 24)), i 163 (.mov (t 26)), i 164 (.bin .add (t 162) (t 163)), i 165 (.bin .neq (t 164) (k (.int .i64 0))), i 166 (.mov (t 165)), ⟨(some 167), (some (166, false)), (.mov (t 25)), none, []⟩, ⟨(some 168), (some (166, false)), (.call .any (.func 33) [(t 167)]), none, []⟩, ⟨(some 169), (some (166, false)), (.mov (t 18)), none, []⟩, ⟨(some 170), (some (166, false)), (.buildSlice 1 [(.slice none 0 0)] [(0, (1, (t 169)))]), none, []⟩, ⟨(some 171), (some (166, false)), (.call .any (.func 36) [(t 168), (t 170)]), none, []⟩, ⟨(some 172), (some (166, false)), (.un .not (t 171)), none, []⟩, i 173 (.pick (t 166) (k (.bool true)) (t 172))]) (.cond (t 173) (.seq (.ops [i 8 (.mov (k (.bool false)))]) .ret) .skip)) (.seq (.ops [i 174 (.mov (t 23)), i 175 (.call .any (.func 33) [(t 174)]), i 27 (.mov (t 175))]) (.seq (.seq (.ops [i 176 (.mov (t 27)), i 177 (.mov (t 18)), i 178 (.buildSlice 1 [(.slice none 0 0)] [(0, (1, (t 177)))]), i 179 (.call .any (.func 36) [(t 176), (t 178)])]) (.cond (t 179) (.seq (.ops [i 180 (.call .any (.func 11) []), i 8 (.mov (t 180))]) .ret) .skip)) (.seq (.ops [i 181 (.mov (t 27)), i 182 (.lenSlice (t 181)), i 183 (.mov (t 13)), i 184 (.bin .geq (t 182) (t 183)), i 185 (.mov (t 184)), ⟨(some 186), (some (185, true)), (.mov (t 27)), none, []⟩, ⟨(some 187), (some (185, true)), (.lenSlice (t 186)), none, []⟩, ⟨(some 188), (some (185, true)), (.mov (t 12)), none, []⟩, ⟨(some 189), (some (185, true)), (.lenSlice (t 188)), none, []⟩, ⟨(some 190), (some (185, true)), (.bin .leq (t 187) (t 189)), none, []⟩, i 191 (.pick (t 185) (t 190) (k (.bool false))), i 192 (.mov (t 191)), ⟨(some 193), (some (192, true)), (.mov (t 27)), none, []⟩, ⟨(some 194), (some (192, true)), (.mov (t 12)), none, []⟩, ⟨(some 195), (some (192, true)), (.mov (t 27)), none, []⟩, ⟨(some 196), (some (192, true)), (.lenSlice (t 195)), none, []⟩, ⟨(some 197), (some (192, true)), (.sliceS 1 (t 194) none (some (t 196)) none), none, []⟩, ⟨(some 198), (some (192, true)), (.call .any (.func 36) [(t 193), (t 197)]), none, []⟩, i 199 (.pick (t 192) (t 198) (k (.bool false))), i 200 (.mov (t 199)), ⟨(some 201), (some (200, true)), (.call .any (.func 11) []), none, []⟩, i 202 (.pick (t 200) (t 201) (k (.bool false))), i 8 (.mov (t 202))]) .ret))))))))))))))))))))
def a9 : AFunc := ⟨203, [(.tmp 8)], c9⟩
theorem n9 : a9.ntmps = 203 := id rfl
theorem r9 : a9.results = [(.tmp 8)] := rfl
theorem b9 : a9.body = c9 := rfl
def l10_1 : ACode := (.seq (.ops [i 144 (.bin .lss (t 143) (t 142))]) (.seq (.cond (t 144) .skip (.exit 4)) (.seq (.block 5 (.seq (.ops [i 145 (.mov (t 143)), i 17 (.mov (t 145))]) (.seq (.drawn 0 [i 146 (.mov (t 6)), i 147 (.nilCheck (t 146)), i 148 (.fieldAddr 0 (t 147)), i 149 (.load1 (t 148)), i 150 (.mov (t 17)), i 151 (.idxAddrS 32 (t 149) (t 150)), i 152 (.loadN 32 (t 151)), i 153 (.mov (t 16)), i 154 (.mov (t 17)), i 155 (.idxAddrS 32 (t 153) (t 154)), i 156 (.loadN 32 (t 155)), i 157 (.eqv true (.agg [(.int .u8), (.int .u8), (.int .u8), (.int .u8), (.int .u8), (.int .u8), (.int .u8), (.int .u8), (.int .u8), (.int .u8), (.int .u8), (.int .u8), (.int .u8), (.int .u8), (.int .u8), (.int .u8), (.int .u8), (.int .u8), (.int .u8), (.int .u8), (.int .u8), (.int .u8), (.int .u8), (.int .u8), (.int .u8), (.int .u8), (.int .u8), (.int .u8), (.int .u8), (.int .u8), (.int .u8), (.int .u8)]) (t 152) (t 156))]) (.cond (t 157) (.seq (.ops [i 4 (.mov (k (.bool false)))]) .ret) .skip)))) (.ops [i 158 (.bin .add (t 143) (k (.int .i64 1))), i 143 (.mov (t 158))]))))
def l10_2 : ACode := (.seq (.ops [i 106 (.bin .lss (t 105) (t 104))]) (.seq (.cond (t 106) .skip (.exit 2)) (.seq (.block 3 (.seq (.ops [i 107 (.mov (t 105)), i 15 (.mov (t 107))]) (.seq (.drawn 0 [i 108 (.mov (t 6)), i 109 (.nilCheck (t 108)), i 110 (.fieldAddr 0 (t 109)), i 111 (.load1 (t 110)), i 112 (.mov (t 15)), i 113 (.idxAddrS 32 (t 111) (t 112)), i 114 (.loadN 32 (t 113)), i 115 (.mov (t 12)), i 116 (.mov (t 15)), i 117 (.idxAddrS 32 (t 115) (t 116)), i 118 (.loadN 32 (t 117)), i 119 (.eqv true (.agg [(.int .u8), (.int .u8), (.int .u8), (.int .u8), (.int .u8), (.int .u8), (.int .u8), (.int .u8), (.int .u8), (.int .u8), (.int .u8), (.int .u8), (.int .u8), (.int .u8), (.int .u8), (.int .u8), (.int .u8), (.int .u8), (.int .u8), (.int .u8), (.int .u8), (.int .u8), (.int .u8), (.int .u8), (.int .u8), (.int .u8), (.int .u8), (.int .u8), (.int .u8), (.int .u8), (.int .u8), (.int .u8)]) (t 114) (t 118))]) (.cond (t 119) (.seq (.ops [i 4 (.mov (k (.bool false)))]) .ret) .skip)))) (.ops [i 120 (.bin .add (t 105) (k (.int .i64 1))), i 105 (.mov (t 120))]))))
def l10_3 : ACode := (.seq (.ops [i 30 (.bin .lss (t 29) (t 28))]) (.seq (.cond (t 30) .skip (.exit 0)) (.seq (.block 1 (.seq (.ops [i 31 (.mov (t 29)), i 32 (.idxAddrS 4 (t 27) (t 29)), i 33 (.loadN 4 (t 32)), i 9 (.alloc [(.int .u8 0), (.int .u8 0), (.int .u8 0), (.int .u64 0)]), i 8 (.mov (t 31)), ⟨none, none, (.store 4 (t 9) (t 33)), none, []⟩]) (.seq (.seq (.ops [i 34 (.mov (t 8)), i 35 (.bin .eql (t 34) (k (.int .i64 20)))]) (.cond (t 35) (.exit 0) .skip)) (.seq (.seq (.ops [i 36 (.fieldAddr 0 (t 9)), i 37 (.load1 (t 36)), i 38 (.bin .rem (t 37) (k (.int .u8 5))), i 39 (.bin .eql (t 38) (k (.int .u8 0)))]) (.cond (t 39) (.ops [i 40 (.mov (t 5)), i 41 (.loadN 4 (t 9)), i 42 (.mov (t 8)), i 43 (.call .any (.func 29) [(t 41), (t 42)]), i 44 (.call .any (.func 30) [(t 40), (t 43)])]) (.ops [i 45 (.mov (t 5)), i 46 (.loadN 4 (t 9)), i 47 (.mov (t 8)), i 48 (.call .any (.func 29) [(t 46), (t 47)]), i 49 (.call .any (.func 31) [(t 45), (t 48)])]))) (.seq (.ops [i 50 (.fieldAddr 0 (t 9)), i 51 (.load1 (t 50)), i 52 (.bin .rem (t 51) (k (.int .u8 3))), i 53 (.bin .eql (t 52) (k (.int .u8 0))), i 54 (.mov (t 53)), ⟨(some 55), (some (54, true)), (.mov (t 5)), none, []⟩, ⟨(some 56), (some (54, true)), (.call .any (.func 34) [(t 55)]), none, []⟩, ⟨(some 57), (some (54, true)), (.bin .neq (t 56) (k (.int .i64 0))), none, []⟩, i 58 (.pick (t 54) (t 57) (k (.bool false)))]) (.cond (t 58) (.seq (.ops [i 4 (.mov (k (.bool false)))]) .ret) .skip)))))) (.ops [i 59 (.bin .add (t 29) (k (.int .i64 1))), i 29 (.mov (t 59))]))))
def c10 : ACode := (.seq (.ops [i 4 (.mov (k (.bool false)))]) (.seq (.ops [i 20 (.mov (t 0)), i 21 (.call .any (.func 28) [(t 20)]), i 19 (.mov (t 21)), i 22 (.extract 0 (t 19)), i 23 (.extract 1 (t 19)), i 24 (.extract 2 (t 19)), i 5 (.mov (t 22)), i 6 (.mov (t 23)), i 7 (.mov (t 24))]) (.seq (.seq (.ops [i 25 (.mov (t 7)), i 26 (.un .not (t 25))]) (.cond (t 26) (.seq (.ops [i 4 (.mov (k (.bool false)))]) .ret) .skip)) (.seq (.seq (.ops [i 27 (.mov (t 1)), i 28 (.lenSlice (t 27)), i 29 (.mov (k (.int .i64 0)))]) (.block 0 (.loop l10_3))) (.seq (.drawn 0 [i 60 (.mov (t 5)), i 62 (.mov (t 6)), i 63 (.nilCheck (t 62)), i 64 (.fieldAddr 1 (t 63)), i 65 (.load1 (t 64)), i 66 (.lenSlice (t 65)), i 61 (.call .mk (.func 33) [(t 60)]), i 10 (.mov (t 61)), i 11 (.mov (t 66))]) (.seq (.ops [i 67 (.buildSlice 0 [] []), i 68 (.mov (t 6)), i 69 (.nilCheck (t 68)), i 70 (.fieldAddr 0 (t 69)), i 71 (.load1 (t 70)), i 72 (.append 32 32 false (t 67) (t 71)), i 12 (.mov (t 72))]) (.seq (.ops [i 74 (.mov (t 6)), i 75 (.call .any (.func 35) [(t 74)]), i 73 (.mov (t 75)), i 76 (.extract 0 (t 73)), i 77 (.extract 1 (t 73)), i 13 (.mov (t 76)), i 14 (.mov (t 77))]) (.seq (.seq (.ops [i 78 (.mov (t 14)), i 79 (.bin .neq (t 78) (k (.int .i64 0))), i 80 (.mov (t 79)), ⟨(some 81), (some (80, false)), (.mov (t 6)), none, []⟩, ⟨(some 82), (some (80, false)), (.nilCheck (t 81)), none, []⟩, ⟨(some 83), (some (80, false)), (.fieldAddr 1 (t 82)), none, []⟩, ⟨(some 84), (some (80, false)), (.load1 (t 83)), none, []⟩, ⟨(some 85), (some (80, false)), (.lenSlice (t 84)), none, []⟩, ⟨(some 86), (some (80, false)), (.mov (t 11)), none, []⟩, ⟨(some 87), (some (80, false)), (.bin .neq (t 85) (t 86)), none, []⟩, i 88 (.pick (t 80) (k (.bool true)) (t 87)), i 89 (.mov (t 88)), ⟨(some 90), (some (89, false)), (.mov (t 13)), none, []⟩, ⟨(some 91), (some (89, false)), (.call .any (.func 33) [(t 90)]), none, []⟩, ⟨(some 92), (some (89, false)), (.mov (t 10)), none, []⟩, ⟨(some 93), (some (89, false)), (.call .any (.func 36) [(t 91), (t 92)]), none, []⟩, ⟨(some 94), (some (89, false)), (.un .not (t 93)), none, []⟩, i 95 (.pick (t 89) (k (.bool true)) (t 94)), i 96 (.mov (t 95)), ⟨(some 97), (some (96, false)), (.mov (t 13)), none, []⟩, ⟨(some 98), (some (96, false)), (.call .any (.func 32) [(t 97)]), none, []⟩, ⟨(some 99), (some (96, false)), (.mov (t 5)), none, []⟩, ⟨(some 100), (some (96, false)), (.call .any (.func 32) [(t 99)]), none, []⟩, ⟨(some 101), (some (96, false)), (.bin .neq (t 98) (t 100)), none, []⟩, i 102 (.pick (t 96) (k (.bool true)) (t 101))]) (.cond (t 102) (.seq (.ops [i 4 (.mov (k (.bool false)))]) .ret) .skip)) (.seq (.seq (.ops [i 103 (.mov (t 12)), i 104 (.lenSlice (t 103)), i 105 (.mov (k (.int .i64 0)))]) (.block 2 (.loop l10_2))) (.seq (.seq (.ops [i 121 (.mov (t 13)), i 122 (.call .any (.func 34) [(t 121)]), i 123 (.bin .neq (t 122) (k (.int .i64 0))), i 124 (.mov (t 123)), ⟨(some 125), (some (124, false)), (.mov (t 6)), none, []⟩, ⟨(some 126), (some (124, false)), (.nilCheck (t 125)), none, []⟩, ⟨(some 127), (some (124, false)), (.fieldAddr 1 (t 126)), none, []⟩, ⟨(some 128), (some (124, false)), (.load1 (t 127)), none, []⟩, ⟨(some 129), (some (124, false)), (.lenSlice (t 128)), none, []⟩, ⟨(some 130), (some (124, false)), (.bin .neq (t 129) (k (.int .i64 0))), none, []⟩, i 131 (.pick (t 124) (k (.bool true)) (t 130))]) (.cond (t 131) (.seq (.ops [i 4 (.mov (k (.bool false)))]) .ret) .skip)) (.seq (.ops [i 132 (.buildSlice 0 [] []), i 133 (.mov (t 6)), i 134 (.nilCheck (t 133)), i 135 (.fieldAddr 0 (t 134)), i 136 (.load1 (t 135)), i 137 (.append 32 32 false (t 132) (t 136)), i 16 (.mov (t 137))]) (.seq (.seq (.ops [i 138 (.mov (t 13)), i 139 (.call .any (.func 34) [(t 138)]), i 140 (.bin .neq (t 139) (k (.int .i64 0)))]) (.cond (t 140) (.seq (.ops [i 4 (.mov (k (.bool false)))]) .ret) .skip)) (.seq (.seq (.ops [i 141 (.mov (t 16)), i 142 (.lenSlice (t 141)), i 143 (.mov (k (.int .i64 0)))]) (.block 4 (.loop l10_1))) (.seq (.ops [i 160 (.mov (t 6)), i 161 (.call .any (.func 35) [(t 160)]), i 159 (.mov (t 161)), i 162 (.extract 0 (t 159)), i 163 (.extract 1 (t 159)), i 18 (.mov (t 162)), i 14 (.mov (t 163))]) (.seq (.ops [i 164 (.mov (t 14)), i 165 (.bin .eql (t 164) (k (.int .i64 0))), i 166 (.mov (t 165)), ⟨(some 167), (some (166, true)), (.mov (t 18)), none, []⟩, ⟨(some 168), (some (166, true)), (.call .any (.func 33) [(t 167)]), none, []⟩, ⟨(some 169), (some (166, true)), (.mov (t 10)), none, []⟩, ⟨(some 170), (some (166, true)), (.call .any (.func 36) [(t 168), (t 169)]), none, []⟩, i 171 (.pick (t 166) (t 170) (k (.bool false))), i 172 (.mov (t 171)), ⟨(some 173), (some (172, true)), (.mov (t 6)), none, []⟩, ⟨(some 174), (some (172, true)), (.nilCheck (t 173)), none, []⟩, ⟨(some 175), (some (172, true)), (.fieldAddr 1 (t 174)), none, []⟩, ⟨(some 176), (some (172, true)), (.load1 (t 175)), none, []⟩, ⟨(some 177), (some (172, true)), (.lenSlice (t 176)), none, []⟩, ⟨(some 178), (some (172, true)), (.bin .eql (t 177) (k (.int .i64 0))), none, []⟩, i 179 (.pick (t 172) (t 178) (k (.bool false))), i 180 (.mov (t 179)), ⟨(some 181), (some (180, true)), (.call .any (.func 11) []), none, []⟩, i 182 (.pick (t 180) (t 181) (k (.bool false))), i 4 (.mov (t 182))]) .ret)))))))))))))))
def a10 : AFunc := ⟨183, [(.tmp 4)], c10⟩
theorem n10 : a10.ntmps = 183 := id rfl
theorem r10 : a10.results = [(.tmp 4)] := rfl
theorem b10 : a10.body = c10 := rfl
def c11 : ACode := (.seq (.ops [i 0 (.mov (k (.bool false)))]) (.seq (.ops [i 10 (.call .any (.func 38) [(k (.int .i64 8))]), i 9 (.mov (t 10)), i 11 (.extract 0 (t 9)), i 12 (.extract 1 (t 9)), i 1 (.mov (t 11)), i 2 (.mov (t 12))]) (.seq (.seq (.ops [i 13 (.mov (t 2)), i 14 (.bin .neq (t 13) (k (.int .i64 0))), i 15 (.mov (t 14)), ⟨(some 16), (some (15, false)), (.mov (t 1)), none, []⟩, ⟨(some 17), (some (15, false)), (.eqv false .ptr (t 16) (k (.pointer none))), none, []⟩, i 18 (.pick (t 15) (k (.bool true)) (t 17)), i 19 (.mov (t 18)), ⟨(some 20), (some (19, false)), (.mov (t 1)), none, []⟩, ⟨(some 21), (some (19, false)), (.nilCheck (t 20)), none, []⟩, ⟨(some 22), (some (19, false)), (.fieldAddr 0 (t 21)), none, []⟩, ⟨(some 23), (some (19, false)), (.load1 (t 22)), none, []⟩, ⟨(some 24), (some (19, false)), (.lenSlice (t 23)), none, []⟩, ⟨(some 25), (some (19, false)), (.bin .neq (t 24) (k (.int .i64 8))), none, []⟩, i 26 (.pick (t 19) (k (.bool true)) (t 25))]) (.cond (t 26) (.seq (.ops [i 0 (.mov (k (.bool false)))]) .ret) .skip)) (.seq (.ops [i 28 (.mov (t 1)), i 29 (.call .any (.func 35) [(t 28)]), i 27 (.mov (t 29)), i 30 (.extract 0 (t 27)), i 31 (.extract 1 (t 27)), i 3 (.mov (t 30)), i 2 (.mov (t 31))]) (.seq (.seq (.ops [i 32 (.mov (t 2)), i 33 (.bin .neq (t 32) (k (.int .i64 0))), i 34 (.mov (t 33)), ⟨(some 35), (some (34, false)), (.mov (t 1)), none, []⟩, ⟨(some 36), (some (34, false)), (.nilCheck (t 35)), none, []⟩, ⟨(some 37), (some (34, false)), (.fieldAddr 0 (t 36)), none, []⟩, ⟨(some 38), (some (34, false)), (.load1 (t 37)), none, []⟩, ⟨(some 39), (some (34, false)), (.idxAddrS 32 (t 38) (k (.int .i64 0))), none, []⟩, ⟨(some 40), (some (34, false)), (.loadN 32 (t 39)), none, []⟩, ⟨(some 41), (some (34, false)), (.build [(.int .u8 0), (.int .u8 0), (.int .u8 0), (.int .u8 0), (.int .u8 0), (.int .u8 0), (.int .u8 0), (.int .u8 0), (.int .u8 0), (.int .u8 0), (.int .u8 0), (.int .u8 0), (.int .u8 0), (.int .u8 0), (.int .u8 0), (.int .u8 0), (.int .u8 0), (.int .u8 0), (.int .u8 0), (.int .u8 0), (.int .u8 0), (.int .u8 0), (.int .u8 0), (.int .u8 0), (.int .u8 0), (.int .u8 0), (.int .u8 0), (.int .u8 0), (.int .u8 0), (.int .u8 0), (.int .u8 0), (.int .u8 0)] [(3, (1, (k (.int .u8 1)))), (7, (1, (k (.int .u8 1)))), (12, (1, (k (.int .u8 3))))]), none, []⟩, ⟨(some 42), (some (34, false)), (.eqv true (.agg [(.int .u8), (.int .u8), (.int .u8), (.int .u8), (.int .u8), (.int .u8), (.int .u8), (.int .u8), (.int .u8), (.int .u8), (.int .u8), (.int .u8), (.int .u8), (.int .u8), (.int .u8), (.int .u8), (.int .u8), (.int .u8), (.int .u8), (.int .u8), (.int .u8), (.int .u8), (.int .u8), (.int .u8), (.int .u8), (.int .u8), (.int .u8), (.int .u8), (.int .u8), (.int .u8), (.int .u8), (.int .u8)]) (t 40) (t 41)), none, []⟩, i 43 (.pick (t 34) (k (.bool true)) (t 42)), i 44 (.mov (t 43)), ⟨(some 45), (some (44, false)), (.mov (t 3)), none, []⟩, ⟨(some 46), (some (44, false)), (.call .any (.func 33) [(t 45)]), none, []⟩, ⟨(some 47), (some (44, false)), (.lenSlice (t 46)), none, []⟩, ⟨(some 48), (some (44, false)), (.bin .neq (t 47) (k (.int .i64 1))), none, []⟩, i 49 (.pick (t 44) (k (.bool true)) (t 48)), i 50 (.mov (t 49)), ⟨(some 51), (some (50, false)), (.mov (t 3)), none, []⟩, ⟨(some 52), (some (50, false)), (.call .any (.func 33) [(t 51)]), none, []⟩, ⟨(some 53), (some (50, false)), (.idxAddrS 1 (t 52) (k (.int .i64 0))), none, []⟩, ⟨(some 54), (some (50, false)), (.load1 (t 53)), none, []⟩, ⟨(some 55), (some (50, false)), (.lenSlice (t 54)), none, []⟩, ⟨(some 56), (some (50, false)), (.bin .neq (t 55) (k (.int .i64 0))), none, []⟩, i 57 (.pick (t 50) (k (.bool true)) (t 56)), i 58 (.mov (t 57)), ⟨(some 59), (some (58, false)), (.mov (t 3)), none, []⟩, ⟨(some 60), (some (58, false)), (.call .any (.func 32) [(t 59)]), none, []⟩, ⟨(some 61), (some (58, false)), (.bin .neq (t 60) (k (.int .i64 3))), none, []⟩, i 62 (.pick (t 58) (k (.bool true)) (t 61))]) (.cond (t 62) (.seq (.ops [i 0 (.mov (k (.bool false)))]) .ret) .skip)) (.seq (.ops [i 63 (.buildSlice 20 [(.int .u8 0), (.int .u8 0), (.int .u8 0), (.int .u8 0), (.int .u8 0), (.int .u8 0), (.int .u8 0), (.int .u8 0), (.int .u8 0), (.int .u8 0), (.int .u8 0), (.int .u8 0), (.int .u8 0), (.int .u8 0), (.int .u8 0), (.int .u8 0), (.int .u8 0), (.int .u8 0), (.int .u8 0), (.int .u8 0)] [(0, (1, (k (.int .u8 97)))), (1, (1, (k (.int .u8 98)))), (2, (1, (k (.int .u8 99)))), (3, (1, (k (.int .u8 100)))), (4, (1, (k (.int .u8 101)))), (5, (1, (k (.int .u8 102)))), (6, (1, (k (.int .u8 103)))), (7, (1, (k (.int .u8 104)))), (8, (1, (k (.int .u8 105)))), (9, (1, (k (.int .u8 106)))), (10, (1, (k (.int .u8 107)))), (11, (1, (k (.int .u8 108)))), (12, (1, (k (.int .u8 109)))), (13, (1, (k (.int .u8 110)))), (14, (1, (k (.int .u8 111)))), (15, (1, (k (.int .u8 112)))), (16, (1, (k (.int .u8 113)))), (17, (1, (k (.int .u8 114)))), (18, (1, (k (.int .u8 115)))), (19, (1, (k (.int .u8 116))))]), i 64 (.rowMark (t 63)), i 4 (.mov (t 64))]) (.seq (.drawn 0 [i 65 (.mov (t 3)), i 66 (.mov (t 4)), i 67 (.call .any (.func 31) [(t 65), (t 66)]), i 68 (.mov (t 3)), i 69 (.mov (t 4)), i 70 (.sliceS 1 (t 69) none (some (k (.int .i64 19))) none), i 71 (.call .any (.func 31) [(t 68), (t 70)]), i 2 (.mov (t 67)), i 5 (.mov (t 71))]) (.seq (.seq (.ops [i 72 (.mov (t 2)), i 73 (.bin .neq (t 72) (k (.int .i64 0))), i 74 (.mov (t 73)), ⟨(some 75), (some (74, false)), (.mov (t 5)), none, []⟩, ⟨(some 76), (some (74, false)), (.bin .neq (t 75) (k (.int .i64 4))), none, []⟩, i 77 (.pick (t 74) (k (.bool true)) (t 76)), i 78 (.mov (t 77)), ⟨(some 79), (some (78, false)), (.mov (t 3)), none, []⟩, ⟨(some 80), (some (78, false)), (.call .any (.func 32) [(t 79)]), none, []⟩, ⟨(some 81), (some (78, false)), (.bin .neq (t 80) (k (.int .i64 1))), none, []⟩, i 82 (.pick (t 78) (k (.bool true)) (t 81)), i 83 (.mov (t 82)), ⟨(some 84), (some (83, false)), (.mov (t 1)), none, []⟩, ⟨(some 85), (some (83, false)), (.nilCheck (t 84)), none, []⟩, ⟨(some 86), (some (83, false)), (.fieldAddr 1 (t 85)), none, []⟩, ⟨(some 87), (some (83, false)), (.load1 (t 86)), none, []⟩, ⟨(some 88), (some (83, false)), (.lenSlice (t 87)), none, []⟩, ⟨(some 89), (some (83, false)), (.bin .neq (t 88) (k (.int .i64 2))), none, []⟩, i 90 (.pick (t 83) (k (.bool true)) (t 89)), i 91 (.mov (t 90)), ⟨(some 92), (some (91, false)), (.mov (t 1)), none, []⟩, ⟨(some 93), (some (91, false)), (.nilCheck (t 92)), none, []⟩, ⟨(some 94), (some (91, false)), (.fieldAddr 1 (t 93)), none, []⟩, ⟨(some 95), (some (91, false)), (.load1 (t 94)), none, []⟩, ⟨(some 96), (some (91, false)), (.idxAddrS 33 (t 95) (k (.int .i64 1))), none, []⟩, ⟨(some 97), (some (91, false)), (.fieldAddr 0 (t 96)), none, []⟩, ⟨(some 98), (some (91, false)), (.load1 (t 97)), none, []⟩, ⟨(some 99), (some (91, false)), (.bin .neq (t 98) (k (.int .i64 2))), none, []⟩, i 100 (.pick (t 91) (k (.bool true)) (t 99)), i 101 (.mov (t 100)), ⟨(some 102), (some (101, false)), (.mov (t 1)), none, []⟩, ⟨(some 103), (some (101, false)), (.nilCheck (t 102)), none, []⟩, ⟨(some 104), (some (101, false)), (.fieldAddr 1 (t 103)), none, []⟩, ⟨(some 105), (some (101, false)), (.load1 (t 104)), none, []⟩, ⟨(some 106), (some (101, false)), (.idxAddrS 33 (t 105) (k (.int .i64 1))), none, []⟩, ⟨(some 107), (some (101, false)), (.fieldAddr 1 (t 106)), none, []⟩, ⟨(some 108), (some (101, false)), (.loadN 32 (t 107)), none, []⟩, ⟨(some 109), (some (101, false)), (.build [(.int .u8 0), (.int .u8 0), (.int .u8 0), (.int .u8 0), (.int .u8 0), (.int .u8 0), (.int .u8 0), (.int .u8 0), (.int .u8 0), (.int .u8 0), (.int .u8 0), (.int .u8 0), (.int .u8 0), (.int .u8 0), (.int .u8 0), (.int .u8 0), (.int .u8 0), (.int .u8 0), (.int .u8 0), (.int .u8 0), (.int .u8 0), (.int .u8 0), (.int .u8 0), (.int .u8 0), (.int .u8 0), (.int .u8 0), (.int .u8 0), (.int .u8 0), (.int .u8 0), (.int .u8 0), (.int .u8 0), (.int .u8 0)] [(3, (1, (k (.int .u8 1)))), (7, (1, (k (.int .u8 1)))), (11, (1, (k (.int .u8 2)))), (12, (1, (k (.int .u8 2)))), (13, (1, (k (.int .u8 2)))), (14, (1, (k (.int .u8 115)))), (15, (1, (k (.int .u8 116))))]), none, []⟩, ⟨(some 110), (some (101, false)), (.eqv true (.agg [(.int .u8), (.int .u8), (.int .u8), (.int .u8), (.int .u8), (.int .u8), (.int .u8), (.int .u8), (.int .u8), (.int .u8), (.int .u8), (.int .u8), (.int .u8), (.int .u8), (.int .u8), (.int .u8), (.int .u8), (.int .u8), (.int .u8), (.int .u8), (.int .u8), (.int .u8), (.int .u8), (.int .u8), (.int .u8), (.int .u8), (.int .u8), (.int .u8), (.int .u8), (.int .u8), (.int .u8), (.int .u8)]) (t 108) (t 109)), none, []⟩, i 111 (.pick (t 101) (k (.bool true)) (t 110))]) (.cond (t 111) (.seq (.ops [i 0 (.mov (k (.bool false)))]) .ret) .skip)) (.seq (.ops [i 112 (.mov (t 1)), i 113 (.buildSlice 2 [(.bool false), (.bool false)] [(0, (1, (k (.bool false)))), (1, (1, (k (.bool true))))]), i 114 (.call .any (.func 13) [(t 112), (t 113)])]) (.seq (.ops [i 116 (.mov (t 1)), i 117 (.call .any (.func 35) [(t 116)]), i 115 (.mov (t 117)), i 118 (.extract 0 (t 115)), i 119 (.extract 1 (t 115)), i 3 (.mov (t 118)), i 2 (.mov (t 119))]) (.seq (.seq (.ops [i 120 (.mov (t 2)), i 121 (.bin .neq (t 120) (k (.int .i64 0))), i 122 (.mov (t 121)), ⟨(some 123), (some (122, false)), (.mov (t 3)), none, []⟩, ⟨(some 124), (some (122, false)), (.call .any (.func 33) [(t 123)]), none, []⟩, ⟨(some 125), (some (122, false)), (.lenSlice (t 124)), none, []⟩, ⟨(some 126), (some (122, false)), (.bin .neq (t 125) (k (.int .i64 1))), none, []⟩, i 127 (.pick (t 122) (k (.bool true)) (t 126)), i 128 (.mov (t 127)), ⟨(some 129), (some (128, false)), (.mov (t 3)), none, []⟩, ⟨(some 130), (some (128, false)), (.call .any (.func 32) [(t 129)]), none, []⟩, ⟨(some 131), (some (128, false)), (.bin .neq (t 130) (k (.int .i64 3))), none, []⟩, i 132 (.pick (t 128) (k (.bool true)) (t 131))]) (.cond (t 132) (.seq (.ops [i 0 (.mov (k (.bool false)))]) .ret) .skip)) (.seq (.ops [i 133 (.mov (t 3)), i 134 (.buildSlice 1 [(.int .u8 0)] [(0, (1, (k (.int .u8 120))))]), i 135 (.rowMark (t 134)), i 136 (.call .any (.func 31) [(t 133), (t 135)]), i 2 (.mov (t 136))]) (.seq (.seq (.ops [i 137 (.mov (t 2)), i 138 (.bin .neq (t 137) (k (.int .i64 0))), i 139 (.mov (t 138)), ⟨(some 140), (some (139, false)), (.mov (t 3)), none, []⟩, ⟨(some 141), (some (139, false)), (.call .any (.func 32) [(t 140)]), none, []⟩, ⟨(some 142), (some (139, false)), (.bin .neq (t 141) (k (.int .i64 2))), none, []⟩, i 143 (.pick (t 139) (k (.bool true)) (t 142)), i 144 (.mov (t 143)), ⟨(some 145), (some (144, false)), (.mov (t 3)), none, []⟩, ⟨(some 146), (some (144, false)), (.buildSlice 2 [(.int .u8 0), (.int .u8 0)] [(0, (1, (k (.int .u8 97)))), (1, (1, (k (.int .u8 98))))]), none, []⟩, ⟨(some 147), (some (144, false)), (.rowMark (t 146)), none, []⟩, ⟨(some 148), (some (144, false)), (.call .any (.func 30) [(t 145), (t 147)]), none, []⟩, ⟨(some 149), (some (144, false)), (.bin .neq (t 148) (k (.int .i64 0))), none, []⟩, i 150 (.pick (t 144) (k (.bool true)) (t 149)), i 151 (.mov (t 150)), ⟨(some 152), (some (151, false)), (.mov (t 1)), none, []⟩, ⟨(some 153), (some (151, false)), (.nilCheck (t 152)), none, []⟩, ⟨(some 154), (some (151, false)), (.fieldAddr 0 (t 153)), none, []⟩, ⟨(some 155), (some (151, false)), (.load1 (t 154)), none, []⟩, ⟨(some 156), (some (151, false)), (.idxAddrS 32 (t 155) (k (.int .i64 1))), none, []⟩, ⟨(some 157), (some (151, false)), (.loadN 32 (t 156)), none, []⟩, ⟨(some 158), (some (151, false)), (.build [(.int .u8 0), (.int .u8 0), (.int .u8 0), (.int .u8 0), (.int .u8 0), (.int .u8 0), (.int .u8 0), (.int .u8 0), (.int .u8 0), (.int .u8 0), (.int .u8 0), (.int .u8 0), (.int .u8 0), (.int .u8 0), (.int .u8 0), (.int .u8 0), (.int .u8 0), (.int .u8 0), (.int .u8 0), (.int .u8 0), (.int .u8 0), (.int .u8 0), (.int .u8 0), (.int .u8 0), (.int .u8 0), (.int .u8 0), (.int .u8 0), (.int .u8 0), (.int .u8 0), (.int .u8 0), (.int .u8 0), (.int .u8 0)] [(3, (1, (k (.int .u8 1)))), (7, (1, (k (.int .u8 2)))), (11, (1, (k (.int .u8 1)))), (12, (1, (k (.int .u8 3)))), (13, (1, (k (.int .u8 1)))), (14, (1, (k (.int .u8 120))))]), none, []⟩, ⟨(some 159), (some (151, false)), (.eqv true (.agg [(.int .u8), (.int .u8), (.int .u8), (.int .u8), (.int .u8), (.int .u8), (.int .u8), (.int .u8), (.int .u8), (.int .u8), (.int .u8), (.int .u8), (.int .u8), (.int .u8), (.int .u8), (.int .u8), (.int .u8), (.int .u8), (.int .u8), (.int .u8), (.int .u8), (.int .u8), (.int .u8), (.int .u8), (.int .u8), (.int .u8), (.int .u8), (.int .u8), (.int .u8), (.int .u8), (.int .u8), (.int .u8)]) (t 157) (t 158)), none, []⟩, i 160 (.pick (t 151) (k (.bool true)) (t 159)), i 161 (.mov (t 160)), ⟨(some 162), (some (161, false)), (.mov (t 1)), none, []⟩, ⟨(some 163), (some (161, false)), (.nilCheck (t 162)), none, []⟩, ⟨(some 164), (some (161, false)), (.fieldAddr 0 (t 163)), none, []⟩, ⟨(some 165), (some (161, false)), (.load1 (t 164)), none, []⟩, ⟨(some 166), (some (161, false)), (.idxAddrS 32 (t 165) (k (.int .i64 4))), none, []⟩, ⟨(some 167), (some (161, false)), (.loadN 32 (t 166)), none, []⟩, ⟨(some 168), (some (161, false)), (.build [(.int .u8 0), (.int .u8 0), (.int .u8 0), (.int .u8 0), (.int .u8 0), (.int .u8 0), (.int .u8 0), (.int .u8 0), (.int .u8 0), (.int .u8 0), (.int .u8 0), (.int .u8 0), (.int .u8 0), (.int .u8 0), (.int .u8 0), (.int .u8 0), (.int .u8 0), (.int .u8 0), (.int .u8 0), (.int .u8 0), (.int .u8 0), (.int .u8 0), (.int .u8 0), (.int .u8 0), (.int .u8 0), (.int .u8 0), (.int .u8 0), (.int .u8 0), (.int .u8 0), (.int .u8 0), (.int .u8 0), (.int .u8 0)] [(3, (1, (k (.int .u8 2)))), (7, (1, (k (.int .u8 2)))), (12, (1, (k (.int .u8 3)))), (13, (1, (k (.int .u8 2)))), (14, (1, (k (.int .u8 97)))), (15, (1, (k (.int .u8 98))))]), none, []⟩, ⟨(some 169), (some (161, false)), (.eqv true (.agg [(.int .u8), (.int .u8), (.int .u8), (.int .u8), (.int .u8), (.int .u8), (.int .u8), (.int .u8), (.int .u8), (.int .u8), (.int .u8), (.int .u8), (.int .u8), (.int .u8), (.int .u8), (.int .u8), (.int .u8), (.int .u8), (.int .u8), (.int .u8), (.int .u8), (.int .u8), (.int .u8), (.int .u8), (.int .u8), (.int .u8), (.int .u8), (.int .u8), (.int .u8), (.int .u8), (.int .u8), (.int .u8)]) (t 167) (t 168)), none, []⟩, i 170 (.pick (t 161) (k (.bool true)) (t 169))]) (.cond (t 170) (.seq (.ops [i 0 (.mov (k (.bool false)))]) .ret) .skip)) (.seq (.ops [i 172 (.buildSlice 2 [(.string ⟨#[]⟩), (.string ⟨#[]⟩)] [(0, (1, (k (.string ⟨#[97]⟩)))), (1, (1, (k (.string ⟨#[]⟩))))]), i 173 (.call .any (.func 20) [(t 172)]), i 171 (.mov (t 173)), i 174 (.extract 0 (t 171)), i 175 (.extract 1 (t 171)), i 6 (.mov (t 174)), i 2 (.mov (t 175))]) (.seq (.ops [i 177 (.buildSlice 2 [(.int .u8 0), (.int .u8 0)] [(0, (1, (k (.int .u8 0)))), (1, (1, (k (.int .u8 1))))]), i 178 (.call .any (.func 21) [(t 177)]), i 176 (.mov (t 178)), i 179 (.extract 0 (t 176)), i 180 (.extract 1 (t 176)), i 7 (.mov (t 179)), i 8 (.mov (t 180))]) (.seq (.ops [i 181 (.mov (t 2)), i 182 (.bin .eql (t 181) (k (.int .i64 0))), i 183 (.mov (t 182)), ⟨(some 184), (some (183, true)), (.mov (t 6)), none, []⟩, ⟨(some 185), (some (183, true)), (.b2s (t 184)), none, []⟩, ⟨(some 186), (some (183, true)), (.bin .eql (t 185) (k (.string ⟨#[0, 1, 97, 0, 0]⟩))), none, []⟩, i 187 (.pick (t 183) (t 186) (k (.bool false))), i 188 (.mov (t 187)), ⟨(some 189), (some (188, true)), (.mov (t 8)), none, []⟩, ⟨(some 190), (some (188, true)), (.bin .eql (t 189) (k (.int .i64 421))), none, []⟩, i 191 (.pick (t 188) (t 190) (k (.bool false))), i 0 (.mov (t 191))]) .ret))))))))))))))))
def a11 : AFunc := ⟨192, [(.tmp 0)], c11⟩
theorem n11 : a11.ntmps = 192 := id rfl
theorem r11 : a11.results = [(.tmp 0)] := rfl
theorem b11 : a11.body = c11 := rfl
def l12_1 : ACode := (.seq (.seq (.ops [i 7 (.mov (t 6)), i 8 (.mov (t 1)), i 9 (.bin .lss (t 7) (t 8))]) (.cond (t 9) .skip (.exit 0))) (.seq (.block 1 (.ops [i 12 (.mov (t 5)), i 13 (.mov (t 0)), i 14 (.mov (t 6)), i 15 (.bin .rem (t 14) (k (.int .i64 64))), i 16 (.bin .shr (t 13) (t 15)), i 17 (.bin .and (t 16) (k (.int .u64 1))), i 18 (.bin .eql (t 17) (k (.int .u64 1))), i 19 (.buildSlice 1 [(.bool false)] [(0, (1, (t 18)))]), i 20 (.append 1 1 false (t 12) (t 19)), i 5 (.mov (t 20))])) (.ops [i 10 (.mov (t 6)), i 11 (.bin .add (t 10) (k (.int .i64 1))), i 6 (.mov (t 11))])))
def c12 : ACode := (.seq (.ops [i 4 (.mov (k (.slice none 0 0)))]) (.seq (.ops [i 5 (.mov (k (.slice none 0 0)))]) (.seq (.seq (.ops [i 6 (.mov (k (.int .i64 0)))]) (.block 0 (.loop l12_1))) (.seq (.ops [i 21 (.mov (t 5)), i 4 (.mov (t 21))]) .ret))))
def a12 : AFunc := ⟨22, [(.tmp 4)], c12⟩
theorem n12 : a12.ntmps = 22 := id rfl
theorem r12 : a12.results = [(.tmp 4)] := rfl
theorem b12 : a12.body = c12 := rfl
def l13_1 : ACode := (.seq (.ops [i 14 (.bin .lss (t 13) (t 12))]) (.seq (.cond (t 14) .skip (.exit 0)) (.seq (.block 1 (.seq (.ops [i 15 (.mov (t 13)), i 16 (.idxAddrS 33 (t 11) (t 13)), i 17 (.loadN 33 (t 16)), i 5 (.alloc [(.int .i64 0), (.int .u8 0), (.int .u8 0), (.int .u8 0), (.int .u8 0), (.int .u8 0), (.int .u8 0), (.int .u8 0), (.int .u8 0), (.int .u8 0), (.int .u8 0), (.int .u8 0), (.int .u8 0), (.int .u8 0), (.int .u8 0), (.int .u8 0), (.int .u8 0), (.int .u8 0), (.int .u8 0), (.int .u8 0), (.int .u8 0), (.int .u8 0), (.int .u8 0), (.int .u8 0), (.int .u8 0), (.int .u8 0), (.int .u8 0), (.int .u8 0), (.int .u8 0), (.int .u8 0), (.int .u8 0), (.int .u8 0), (.int .u8 0)]), i 4 (.mov (t 15)), ⟨none, none, (.store 33 (t 5) (t 17)), none, []⟩]) (.seq (.ops [i 18 (.mov (t 0)), i 19 (.fieldAddr 0 (t 5)), i 20 (.load1 (t 19)), i 21 (.call .any (.func 39) [(t 18), (t 20)]), i 22 (.mov (t 21)), ⟨(some 23), (some (22, true)), (.mov (t 4)), none, []⟩, ⟨(some 24), (some (22, true)), (.mov (t 1)), none, []⟩, ⟨(some 25), (some (22, true)), (.lenSlice (t 24)), none, []⟩, ⟨(some 26), (some (22, true)), (.bin .geq (t 23) (t 25)), none, []⟩, ⟨(some 27), (some (22, true)), (.mov (t 26)), none, []⟩, ⟨(some 28), (some (27, false)), (.mov (t 1)), none, []⟩, ⟨(some 29), (some (27, false)), (.mov (t 4)), none, []⟩, ⟨(some 30), (some (27, false)), (.idxAddrS 1 (t 28) (t 29)), none, []⟩, ⟨(some 31), (some (27, false)), (.load1 (t 30)), none, []⟩, ⟨(some 32), (some (27, false)), (.un .not (t 31)), none, []⟩, ⟨(some 33), (some (22, true)), (.pick (t 27) (k (.bool true)) (t 32)), none, []⟩, i 34 (.pick (t 22) (t 33) (k (.bool false)))]) (.cond (t 34) (.drawn 0 [i 35 (.mov (t 0)), i 36 (.nilCheck (t 35)), i 37 (.fieldAddr 0 (t 36)), i 38 (.load1 (t 37)), i 39 (.fieldAddr 0 (t 5)), i 40 (.load1 (t 39)), i 41 (.fieldAddr 1 (t 5)), i 42 (.loadN 32 (t 41)), i 43 (.idxAddrS 32 (t 38) (t 40)), ⟨none, none, (.store 32 (t 43) (t 42)), none, []⟩]) .skip)))) (.ops [i 44 (.bin .add (t 13) (k (.int .i64 1))), i 13 (.mov (t 44))]))))
def c13 : ACode := (.seq (.seq (.ops [i 6 (.mov (t 0)), i 7 (.eqv false .ptr (t 6) (k (.pointer none)))]) (.cond (t 7) .ret .skip)) (.seq (.seq (.ops [i 8 (.mov (t 0)), i 9 (.nilCheck (t 8)), i 10 (.fieldAddr 1 (t 9)), i 11 (.load1 (t 10)), i 12 (.lenSlice (t 11)), i 13 (.mov (k (.int .i64 0)))]) (.block 0 (.loop l13_1))) (.ops [i 45 (.mov (t 0)), i 46 (.nilCheck (t 45)), i 47 (.fieldAddr 1 (t 46)), ⟨none, none, (.store 1 (t 47) (k (.slice none 0 0))), none, []⟩])))
def a13 : AFunc := ⟨48, [], c13⟩
theorem n13 : a13.ntmps = 48 := id rfl
theorem r13 : a13.results = [] := rfl
theorem b13 : a13.body = c13 := rfl
def c14 : ACode := (.ops [i 2 (.mov (t 0)), i 3 (.call .any (.func 13) [(t 2), (k (.slice none 0 0))])])
def a14 : AFunc := ⟨4, [], c14⟩
theorem n14 : a14.ntmps = 4 := id rfl
theorem r14 : a14.results = [] := rfl
theorem b14 : a14.body = c14 := rfl
def l15_1 : ACode := (.seq (.ops [i 59 (.bin .lss (t 58) (t 57))]) (.seq (.cond (t 59) .skip (.exit 2)) (.seq (.block 3 (.seq (.ops [i 60 (.mov (t 58)), i 6 (.mov (t 60))]) (.seq (.drawn 0 [i 61 (.mov (t 0)), i 62 (.nilCheck (t 61)), i 63 (.fieldAddr 1 (t 62)), i 64 (.load1 (t 63)), i 65 (.mov (t 6)), i 66 (.idxAddrS 33 (t 64) (t 65)), i 67 (.fieldAddr 0 (t 66)), i 68 (.load1 (t 67)), i 69 (.fieldAddr 1 (t 3)), i 70 (.load1 (t 69)), i 71 (.mov (t 6)), i 72 (.idxAddrS 33 (t 70) (t 71)), i 73 (.fieldAddr 0 (t 72)), i 74 (.load1 (t 73)), i 75 (.bin .neq (t 68) (t 74)), i 76 (.mov (t 75)), ⟨(some 77), (some (76, false)), (.mov (t 0)), none, []⟩, ⟨(some 78), (some (76, false)), (.nilCheck (t 77)), none, []⟩, ⟨(some 79), (some (76, false)), (.fieldAddr 1 (t 78)), none, []⟩, ⟨(some 80), (some (76, false)), (.load1 (t 79)), none, []⟩, ⟨(some 81), (some (76, false)), (.mov (t 6)), none, []⟩, ⟨(some 82), (some (76, false)), (.idxAddrS 33 (t 80) (t 81)), none, []⟩, ⟨(some 83), (some (76, false)), (.fieldAddr 1 (t 82)), none, []⟩, ⟨(some 84), (some (76, false)), (.loadN 32 (t 83)), none, []⟩, ⟨(some 85), (some (76, false)), (.fieldAddr 1 (t 3)), none, []⟩, ⟨(some 86), (some (76, false)), (.load1 (t 85)), none, []⟩, ⟨(some 87), (some (76, false)), (.mov (t 6)), none, []⟩, ⟨(some 88), (some (76, false)), (.idxAddrS 33 (t 86) (t 87)), none, []⟩, ⟨(some 89), (some (76, false)), (.fieldAddr 1 (t 88)), none, []⟩, ⟨(some 90), (some (76, false)), (.loadN 32 (t 89)), none, []⟩, ⟨(some 91), (some (76, false)), (.eqv true (.agg [(.int .u8), (.int .u8), (.int .u8), (.int .u8), (.int .u8), (.int .u8), (.int .u8), (.int .u8), (.int .u8), (.int .u8), (.int .u8), (.int .u8), (.int .u8), (.int .u8), (.int .u8), (.int .u8), (.int .u8), (.int .u8), (.int .u8), (.int .u8), (.int .u8), (.int .u8), (.int .u8), (.int .u8), (.int .u8), (.int .u8), (.int .u8), (.int .u8), (.int .u8), (.int .u8), (.int .u8), (.int .u8)]) (t 84) (t 90)), none, []⟩, i 92 (.pick (t 76) (k (.bool true)) (t 91))]) (.cond (t 92) (.seq (.ops [i 4 (.mov (k (.bool false)))]) .ret) .skip)))) (.ops [i 93 (.bin .add (t 58) (k (.int .i64 1))), i 58 (.mov (t 93))]))))
def l15_2 : ACode := (.seq (.ops [i 37 (.bin .lss (t 36) (t 35))]) (.seq (.cond (t 37) .skip (.exit 0)) (.seq (.block 1 (.seq (.ops [i 38 (.mov (t 36)), i 5 (.mov (t 38))]) (.seq (.drawn 0 [i 39 (.mov (t 0)), i 40 (.nilCheck (t 39)), i 41 (.fieldAddr 0 (t 40)), i 42 (.load1 (t 41)), i 43 (.mov (t 5)), i 44 (.idxAddrS 32 (t 42) (t 43)), i 45 (.loadN 32 (t 44)), i 46 (.fieldAddr 0 (t 3)), i 47 (.load1 (t 46)), i 48 (.mov (t 5)), i 49 (.idxAddrS 32 (t 47) (t 48)), i 50 (.loadN 32 (t 49)), i 51 (.eqv true (.agg [(.int .u8), (.int .u8), (.int .u8), (.int .u8), (.int .u8), (.int .u8), (.int .u8), (.int .u8), (.int .u8), (.int .u8), (.int .u8), (.int .u8), (.int .u8), (.int .u8), (.int .u8), (.int .u8), (.int .u8), (.int .u8), (.int .u8), (.int .u8), (.int .u8), (.int .u8), (.int .u8), (.int .u8), (.int .u8), (.int .u8), (.int .u8), (.int .u8), (.int .u8), (.int .u8), (.int .u8), (.int .u8)]) (t 45) (t 50))]) (.cond (t 51) (.seq (.ops [i 4 (.mov (k (.bool false)))]) .ret) .skip)))) (.ops [i 52 (.bin .add (t 36) (k (.int .i64 1))), i 36 (.mov (t 52))]))))
def c15 : ACode := (.seq (.ops [i 3 (.box (t 1)), i 4 (.mov (k (.bool false)))]) (.seq (.seq (.drawn 0 [i 7 (.mov (t 0)), i 8 (.eqv false .ptr (t 7) (k (.pointer none))), i 9 (.mov (t 8)), ⟨(some 10), (some (9, false)), (.mov (t 0)), none, []⟩, ⟨(some 11), (some (9, false)), (.nilCheck (t 10)), none, []⟩, ⟨(some 12), (some (9, false)), (.fieldAddr 0 (t 11)), none, []⟩, ⟨(some 13), (some (9, false)), (.load1 (t 12)), none, []⟩, ⟨(some 14), (some (9, false)), (.lenSlice (t 13)), none, []⟩, ⟨(some 15), (some (9, false)), (.fieldAddr 0 (t 3)), none, []⟩, ⟨(some 16), (some (9, false)), (.load1 (t 15)), none, []⟩, ⟨(some 17), (some (9, false)), (.lenSlice (t 16)), none, []⟩, ⟨(some 18), (some (9, false)), (.bin .neq (t 14) (t 17)), none, []⟩, i 19 (.pick (t 9) (k (.bool true)) (t 18)), i 20 (.mov (t 19)), ⟨(some 21), (some (20, false)), (.mov (t 0)), none, []⟩, ⟨(some 22), (some (20, false)), (.nilCheck (t 21)), none, []⟩, ⟨(some 23), (some (20, false)), (.fieldAddr 1 (t 22)), none, []⟩, ⟨(some 24), (some (20, false)), (.load1 (t 23)), none, []⟩, ⟨(some 25), (some (20, false)), (.lenSlice (t 24)), none, []⟩, ⟨(some 26), (some (20, false)), (.fieldAddr 1 (t 3)), none, []⟩, ⟨(some 27), (some (20, false)), (.load1 (t 26)), none, []⟩, ⟨(some 28), (some (20, false)), (.lenSlice (t 27)), none, []⟩, ⟨(some 29), (some (20, false)), (.bin .neq (t 25) (t 28)), none, []⟩, i 30 (.pick (t 20) (k (.bool true)) (t 29))]) (.cond (t 30) (.seq (.ops [i 4 (.mov (k (.bool false)))]) .ret) .skip)) (.seq (.seq (.ops [i 31 (.mov (t 0)), i 32 (.nilCheck (t 31)), i 33 (.fieldAddr 0 (t 32)), i 34 (.load1 (t 33)), i 35 (.lenSlice (t 34)), i 36 (.mov (k (.int .i64 0)))]) (.block 0 (.loop l15_2))) (.seq (.seq (.ops [i 53 (.mov (t 0)), i 54 (.nilCheck (t 53)), i 55 (.fieldAddr 1 (t 54)), i 56 (.load1 (t 55)), i 57 (.lenSlice (t 56)), i 58 (.mov (k (.int .i64 0)))]) (.block 2 (.loop l15_1))) (.seq (.ops [i 4 (.mov (k (.bool true)))]) .ret)))))
def a15 : AFunc := ⟨94, [(.tmp 4)], c15⟩
theorem n15 : a15.ntmps = 94 := id rfl
theorem r15 : a15.results = [(.tmp 4)] := rfl
theorem b15 : a15.body = c15 := rfl
def l16_1 : ACode := (.seq (.seq (.ops [i 13 (.mov (t 6)), i 14 (.fieldAddr 1 (t 2)), i 15 (.load1 (t 14)), i 16 (.lenSlice (t 15)), i 17 (.bin .lss (t 13) (t 16))]) (.cond (t 17) .skip (.exit 0))) (.seq (.block 1 (.seq (.ops [i 20 (.mov (t 6)), i 21 (.mov (t 1)), i 22 (.lenSlice (t 21)), i 23 (.bin .lss (t 20) (t 22)), i 24 (.mov (t 23)), ⟨(some 25), (some (24, true)), (.mov (t 1)), none, []⟩, ⟨(some 26), (some (24, true)), (.mov (t 6)), none, []⟩, ⟨(some 27), (some (24, true)), (.idxAddrS 1 (t 25) (t 26)), none, []⟩, ⟨(some 28), (some (24, true)), (.load1 (t 27)), none, []⟩, i 29 (.pick (t 24) (t 28) (k (.bool false))), i 7 (.mov (t 29))]) (.seq (.drawn 0 [i 30 (.mov (t 7)), i 31 (.un .not (t 30)), i 32 (.mov (t 31)), ⟨(some 33), (some (32, true)), (.fieldAddr 1 (t 2)), none, []⟩, ⟨(some 34), (some (32, true)), (.load1 (t 33)), none, []⟩, ⟨(some 35), (some (32, true)), (.mov (t 6)), none, []⟩, ⟨(some 36), (some (32, true)), (.idxAddrS 33 (t 34) (t 35)), none, []⟩, ⟨(some 37), (some (32, true)), (.fieldAddr 0 (t 36)), none, []⟩, ⟨(some 38), (some (32, true)), (.load1 (t 37)), none, []⟩, ⟨(some 39), (some (32, true)), (.bin .geq (t 38) (k (.int .i64 0))), none, []⟩, i 40 (.pick (t 32) (t 39) (k (.bool false))), i 41 (.mov (t 40)), ⟨(some 42), (some (41, true)), (.fieldAddr 1 (t 2)), none, []⟩, ⟨(some 43), (some (41, true)), (.load1 (t 42)), none, []⟩, ⟨(some 44), (some (41, true)), (.mov (t 6)), none, []⟩, ⟨(some 45), (some (41, true)), (.idxAddrS 33 (t 43) (t 44)), none, []⟩, ⟨(some 46), (some (41, true)), (.fieldAddr 0 (t 45)), none, []⟩, ⟨(some 47), (some (41, true)), (.load1 (t 46)), none, []⟩, ⟨(some 48), (some (41, true)), (.fieldAddr 0 (t 5)), none, []⟩, ⟨(some 49), (some (41, true)), (.load1 (t 48)), none, []⟩, ⟨(some 50), (some (41, true)), (.lenSlice (t 49)), none, []⟩, ⟨(some 51), (some (41, true)), (.bin .lss (t 47) (t 50)), none, []⟩, i 52 (.pick (t 41) (t 51) (k (.bool false)))]) (.cond (t 52) (.drawn 0 [i 53 (.fieldAddr 0 (t 5)), i 54 (.load1 (t 53)), i 55 (.fieldAddr 1 (t 2)), i 56 (.load1 (t 55)), i 57 (.mov (t 6)), i 58 (.idxAddrS 33 (t 56) (t 57)), i 59 (.fieldAddr 0 (t 58)), i 60 (.load1 (t 59)), i 61 (.fieldAddr 1 (t 2)), i 62 (.load1 (t 61)), i 63 (.mov (t 6)), i 64 (.idxAddrS 33 (t 62) (t 63)), i 65 (.fieldAddr 1 (t 64)), i 66 (.loadN 32 (t 65)), i 67 (.idxAddrS 32 (t 54) (t 60)), ⟨none, none, (.store 32 (t 67) (t 66)), none, []⟩]) .skip)))) (.ops [i 18 (.mov (t 6)), i 19 (.bin .add (t 18) (k (.int .i64 1))), i 6 (.mov (t 19))])))
def c16 : ACode := (.seq (.ops [i 2 (.box (t 0)), i 4 (.alloc [(.slice none 0 0), (.slice none 0 0)])]) (.seq (.ops [i 8 (.buildSlice 0 [] []), i 9 (.fieldAddr 0 (t 2)), i 10 (.load1 (t 9)), i 11 (.append 32 32 false (t 8) (t 10)), i 12 (.build [(.slice none 0 0), (.slice none 0 0)] [(0, (1, (t 11)))]), i 5 (.alloc [(.slice none 0 0), (.slice none 0 0)]), ⟨none, none, (.store 2 (t 5) (t 12)), none, []⟩]) (.seq (.seq (.ops [i 6 (.mov (k (.int .i64 0)))]) (.block 0 (.loop l16_1))) (.seq (.ops [i 68 (.loadN 2 (t 5)), ⟨none, none, (.store 2 (t 4) (t 68)), none, []⟩]) .ret))))
def a16 : AFunc := ⟨69, [(.cellN 2 4)], c16⟩
theorem n16 : a16.ntmps = 69 := id rfl
theorem r16 : a16.results = [(.cellN 2 4)] := rfl
theorem b16 : a16.body = c16 := rfl
def l17_1 : ACode := (.seq (.ops [i 26 (.bin .lss (t 25) (t 24))]) (.seq (.cond (t 26) .skip (.exit 2)) (.seq (.block 3 (.seq (.ops [i 27 (.idxAddrS 33 (t 23) (t 25)), i 28 (.loadN 33 (t 27)), i 7 (.alloc [(.int .i64 0), (.int .u8 0), (.int .u8 0), (.int .u8 0), (.int .u8 0), (.int .u8 0), (.int .u8 0), (.int .u8 0), (.int .u8 0), (.int .u8 0), (.int .u8 0), (.int .u8 0), (.int .u8 0), (.int .u8 0), (.int .u8 0), (.int .u8 0), (.int .u8 0), (.int .u8 0), (.int .u8 0), (.int .u8 0), (.int .u8 0), (.int .u8 0), (.int .u8 0), (.int .u8 0), (.int .u8 0), (.int .u8 0), (.int .u8 0), (.int .u8 0), (.int .u8 0), (.int .u8 0), (.int .u8 0), (.int .u8 0), (.int .u8 0)]), ⟨none, none, (.store 33 (t 7) (t 28)), none, []⟩]) (.ops [i 29 (.fieldAddr 1 (t 3)), i 30 (.load1 (t 29)), i 31 (.fieldAddr 0 (t 7)), i 32 (.load1 (t 31)), i 33 (.fieldAddr 1 (t 7)), i 34 (.loadN 32 (t 33)), i 35 (.build [(.int .i64 0), (.int .u8 0), (.int .u8 0), (.int .u8 0), (.int .u8 0), (.int .u8 0), (.int .u8 0), (.int .u8 0), (.int .u8 0), (.int .u8 0), (.int .u8 0), (.int .u8 0), (.int .u8 0), (.int .u8 0), (.int .u8 0), (.int .u8 0), (.int .u8 0), (.int .u8 0), (.int .u8 0), (.int .u8 0), (.int .u8 0), (.int .u8 0), (.int .u8 0), (.int .u8 0), (.int .u8 0), (.int .u8 0), (.int .u8 0), (.int .u8 0), (.int .u8 0), (.int .u8 0), (.int .u8 0), (.int .u8 0), (.int .u8 0)] [(0, (1, (t 32))), (1, (32, (t 34)))]), i 36 (.buildSlice 1 [(.int .i64 0), (.int .u8 0), (.int .u8 0), (.int .u8 0), (.int .u8 0), (.int .u8 0), (.int .u8 0), (.int .u8 0), (.int .u8 0), (.int .u8 0), (.int .u8 0), (.int .u8 0), (.int .u8 0), (.int .u8 0), (.int .u8 0), (.int .u8 0), (.int .u8 0), (.int .u8 0), (.int .u8 0), (.int .u8 0), (.int .u8 0), (.int .u8 0), (.int .u8 0), (.int .u8 0), (.int .u8 0), (.int .u8 0), (.int .u8 0), (.int .u8 0), (.int .u8 0), (.int .u8 0), (.int .u8 0), (.int .u8 0), (.int .u8 0)] [(0, (33, (t 35)))]), i 37 (.append 33 40 false (t 30) (t 36)), i 38 (.fieldAddr 1 (t 3)), ⟨none, none, (.store 1 (t 38) (t 37)), none, []⟩]))) (.ops [i 39 (.bin .add (t 25) (k (.int .i64 1))), i 25 (.mov (t 39))]))))
def l17_2 : ACode := (.seq (.ops [i 12 (.bin .lss (t 11) (t 10))]) (.seq (.cond (t 12) .skip (.exit 0)) (.seq (.block 1 (.seq (.ops [i 13 (.idxAddrS 32 (t 9) (t 11)), i 14 (.loadN 32 (t 13)), i 5 (.alloc [(.int .u8 0), (.int .u8 0), (.int .u8 0), (.int .u8 0), (.int .u8 0), (.int .u8 0), (.int .u8 0), (.int .u8 0), (.int .u8 0), (.int .u8 0), (.int .u8 0), (.int .u8 0), (.int .u8 0), (.int .u8 0), (.int .u8 0), (.int .u8 0), (.int .u8 0), (.int .u8 0), (.int .u8 0), (.int .u8 0), (.int .u8 0), (.int .u8 0), (.int .u8 0), (.int .u8 0), (.int .u8 0), (.int .u8 0), (.int .u8 0), (.int .u8 0), (.int .u8 0), (.int .u8 0), (.int .u8 0), (.int .u8 0)]), ⟨none, none, (.store 32 (t 5) (t 14)), none, []⟩]) (.ops [i 15 (.fieldAddr 0 (t 3)), i 16 (.load1 (t 15)), i 17 (.loadN 32 (t 5)), i 18 (.buildSlice 1 [(.int .u8 0), (.int .u8 0), (.int .u8 0), (.int .u8 0), (.int .u8 0), (.int .u8 0), (.int .u8 0), (.int .u8 0), (.int .u8 0), (.int .u8 0), (.int .u8 0), (.int .u8 0), (.int .u8 0), (.int .u8 0), (.int .u8 0), (.int .u8 0), (.int .u8 0), (.int .u8 0), (.int .u8 0), (.int .u8 0), (.int .u8 0), (.int .u8 0), (.int .u8 0), (.int .u8 0), (.int .u8 0), (.int .u8 0), (.int .u8 0), (.int .u8 0), (.int .u8 0), (.int .u8 0), (.int .u8 0), (.int .u8 0)] [(0, (32, (t 17)))]), i 19 (.append 32 32 false (t 16) (t 18)), i 20 (.fieldAddr 0 (t 3)), ⟨none, none, (.store 1 (t 20) (t 19)), none, []⟩]))) (.ops [i 21 (.bin .add (t 11) (k (.int .i64 1))), i 11 (.mov (t 21))]))))
def c17 : ACode := (.seq (.ops [i 1 (.box (t 0)), i 2 (.alloc [(.slice none 0 0), (.slice none 0 0)])]) (.seq (.ops [i 3 (.alloc [(.slice none 0 0), (.slice none 0 0)])]) (.seq (.seq (.ops [i 8 (.fieldAddr 0 (t 1)), i 9 (.load1 (t 8)), i 10 (.lenSlice (t 9)), i 11 (.mov (k (.int .i64 0)))]) (.block 0 (.loop l17_2))) (.seq (.seq (.ops [i 22 (.fieldAddr 1 (t 1)), i 23 (.load1 (t 22)), i 24 (.lenSlice (t 23)), i 25 (.mov (k (.int .i64 0)))]) (.block 2 (.loop l17_1))) (.seq (.ops [i 40 (.loadN 2 (t 3)), ⟨none, none, (.store 2 (t 2) (t 40)), none, []⟩]) .ret)))))
def a17 : AFunc := ⟨41, [(.cellN 2 2)], c17⟩
theorem n17 : a17.ntmps = 41 := id rfl
theorem r17 : a17.results = [(.cellN 2 2)] := rfl
theorem b17 : a17.body = c17 := rfl
def l18_1 : ACode := (.seq (.seq (.ops [i 12 (.mov (t 4)), i 13 (.bin .lss (t 12) (k (.int .i64 12)))]) (.cond (t 13) .skip (.exit 0))) (.seq (.block 1 (.ops [i 16 (.mov (t 3)), i 17 (.mov (t 4)), i 18 (.call .any (.func 40) [(k (.int .i64 1)), (t 17)]), i 19 (.buildSlice 1 [(.string ⟨#[]⟩)] [(0, (1, (t 18)))]), i 20 (.append 1 16 false (t 16) (t 19)), i 3 (.mov (t 20))])) (.ops [i 14 (.mov (t 4)), i 15 (.bin .add (t 14) (k (.int .i64 1))), i 4 (.mov (t 15))])))
def c18 : ACode := (.seq (.ops [i 2 (.mov (k (.slice none 0 0)))]) (.seq (.ops [i 5 (.mov (t 0)), i 6 (.lenSlice (t 5)), i 7 (.bin .add (t 6) (k (.int .i64 12))), i 8 (.makeSlice 1 16 [(.string ⟨#[]⟩)] (k (.int .i64 0)) (t 7)), i 3 (.mov (t 8))]) (.seq (.ops [i 9 (.mov (t 3)), i 10 (.mov (t 0)), i 11 (.append 1 16 false (t 9) (t 10)), i 3 (.mov (t 11))]) (.seq (.seq (.ops [i 4 (.mov (k (.int .i64 0)))]) (.block 0 (.loop l18_1))) (.seq (.ops [i 21 (.mov (t 3)), i 22 (.mov (t 0)), i 23 (.lenSlice (t 22)), i 24 (.sliceS 1 (t 21) none (some (t 23)) none), i 2 (.mov (t 24))]) .ret)))))
def a18 : AFunc := ⟨25, [(.tmp 2)], c18⟩
theorem n18 : a18.ntmps = 25 := id rfl
theorem r18 : a18.results = [(.tmp 2)] := rfl
theorem b18 : a18.body = c18 := rfl
def l19_1 : ACode := (.seq (.seq (.ops [i 12 (.mov (t 4)), i 13 (.bin .lss (t 12) (k (.int .i64 12)))]) (.cond (t 13) .skip (.exit 0))) (.seq (.block 1 (.ops [i 16 (.mov (t 3)), i 17 (.mov (t 4)), i 18 (.call .any (.func 41) [(k (.int .i64 1)), (t 17)]), i 19 (.buildSlice 1 [(.int .u8 0)] [(0, (1, (t 18)))]), i 20 (.append 1 1 false (t 16) (t 19)), i 3 (.mov (t 20))])) (.ops [i 14 (.mov (t 4)), i 15 (.bin .add (t 14) (k (.int .i64 1))), i 4 (.mov (t 15))])))
def c19 : ACode := (.seq (.ops [i 2 (.mov (k (.slice none 0 0)))]) (.seq (.ops [i 5 (.mov (t 0)), i 6 (.lenSlice (t 5)), i 7 (.bin .add (t 6) (k (.int .i64 12))), i 8 (.makeSlice 1 1 [(.int .u8 0)] (k (.int .i64 0)) (t 7)), i 3 (.mov (t 8))]) (.seq (.ops [i 9 (.mov (t 3)), i 10 (.mov (t 0)), i 11 (.append 1 1 false (t 9) (t 10)), i 3 (.mov (t 11))]) (.seq (.seq (.ops [i 4 (.mov (k (.int .i64 0)))]) (.block 0 (.loop l19_1))) (.seq (.ops [i 21 (.mov (t 3)), i 22 (.mov (t 0)), i 23 (.lenSlice (t 22)), i 24 (.sliceS 1 (t 21) none (some (t 23)) none), i 2 (.mov (t 24))]) .ret)))))
def a19 : AFunc := ⟨25, [(.tmp 2)], c19⟩
theorem n19 : a19.ntmps = 25 := id rfl
theorem r19 : a19.results = [(.tmp 2)] := rfl
theorem b19 : a19.body = c19 := rfl
def l20_1 : ACode := (.seq (.ops [i 13 (.bin .lss (t 12) (t 11))]) (.seq (.cond (t 13) .skip (.exit 0)) (.seq (.block 1 (.seq (.ops [i 14 (.idxAddrS 1 (t 10) (t 12)), i 15 (.load1 (t 14)), i 6 (.mov (t 15))]) (.seq (.seq (.ops [i 16 (.mov (t 6)), i 17 (.lenStr (t 16)), i 18 (.bin .gtr (t 17) (k (.int .i64 1000)))]) (.cond (t 18) (.seq (.ops [i 2 (.mov (k (.slice none 0 0))), i 3 (.mov (k (.int .i64 3)))]) .ret) .skip)) (.seq (.ops [i 19 (.mov (t 4)), i 20 (.mov (t 6)), i 21 (.lenStr (t 20)), i 22 (.bin .shr (t 21) (k (.int .u64 8))), i 23 (.conv .u8 (t 22)), i 24 (.mov (t 6)), i 25 (.lenStr (t 24)), i 26 (.conv .u8 (t 25)), i 27 (.buildSlice 2 [(.int .u8 0), (.int .u8 0)] [(0, (1, (t 23))), (1, (1, (t 26)))]), i 28 (.append 1 1 false (t 19) (t 27)), i 4 (.mov (t 28))]) (.ops [i 29 (.mov (t 4)), i 30 (.mov (t 6)), i 31 (.append 1 1 true (t 29) (t 30)), i 4 (.mov (t 31))]))))) (.ops [i 32 (.bin .add (t 12) (k (.int .i64 1))), i 12 (.mov (t 32))]))))
def c20 : ACode := (.seq (.ops [i 2 (.mov (k (.slice none 0 0))), i 3 (.mov (k (.int .i64 0)))]) (.seq (.seq (.ops [i 7 (.mov (t 0)), i 8 (.lenSlice (t 7)), i 9 (.bin .gtr (t 8) (k (.int .i64 100)))]) (.cond (t 9) (.seq (.ops [i 2 (.mov (k (.slice none 0 0))), i 3 (.mov (k (.int .i64 5)))]) .ret) .skip)) (.seq (.ops [i 4 (.mov (k (.slice none 0 0)))]) (.seq (.seq (.ops [i 10 (.mov (t 0)), i 11 (.lenSlice (t 10)), i 12 (.mov (k (.int .i64 0)))]) (.block 0 (.loop l20_1))) (.seq (.seq (.ops [i 33 (.mov (t 4)), i 34 (.lenSlice (t 33)), i 35 (.bin .gtr (t 34) (k (.int .i64 4000)))]) (.cond (t 35) (.seq (.ops [i 2 (.mov (k (.slice none 0 0))), i 3 (.mov (k (.int .i64 3)))]) .ret) .skip)) (.seq (.ops [i 36 (.mov (t 4)), i 2 (.mov (t 36)), i 3 (.mov (k (.int .i64 0)))]) .ret))))))
def a20 : AFunc := ⟨37, [(.tmp 2), (.tmp 3)], c20⟩
theorem n20 : a20.ntmps = 37 := id rfl
theorem r20 : a20.results = [(.tmp 2), (.tmp 3)] := rfl
theorem b20 : a20.body = c20 := rfl
def l21_1 : ACode := (.seq (.seq (.ops [i 9 (.mov (t 0)), i 10 (.lenSlice (t 9)), i 11 (.bin .gtr (t 10) (k (.int .i64 0)))]) (.cond (t 11) .skip (.exit 0))) (.block 1 (.seq (.seq (.ops [i 12 (.mov (t 0)), i 13 (.lenSlice (t 12)), i 14 (.bin .lss (t 13) (k (.int .i64 2))), i 15 (.mov (t 14)), ⟨(some 16), (some (15, false)), (.mov (t 4)), none, []⟩, ⟨(some 17), (some (15, false)), (.lenSlice (t 16)), none, []⟩, ⟨(some 18), (some (15, false)), (.bin .eql (t 17) (k (.int .i64 100))), none, []⟩, i 19 (.pick (t 15) (k (.bool true)) (t 18))]) (.cond (t 19) (.seq (.ops [i 2 (.mov (k (.slice none 0 0))), i 3 (.mov (k (.int .i64 421)))]) .ret) .skip)) (.seq (.drawn 0 [i 20 (.mov (t 0)), i 21 (.idxAddrS 1 (t 20) (k (.int .i64 0))), i 22 (.load1 (t 21)), i 23 (.conv .i64 (t 22)), i 24 (.bin .shl (t 23) (k (.int .u64 8))), i 25 (.mov (t 0)), i 26 (.idxAddrS 1 (t 25) (k (.int .i64 1))), i 27 (.load1 (t 26)), i 28 (.conv .i64 (t 27)), i 29 (.bin .or (t 24) (t 28)), i 5 (.mov (t 29))]) (.seq (.seq (.ops [i 30 (.mov (t 5)), i 31 (.bin .gtr (t 30) (k (.int .i64 1000))), i 32 (.mov (t 31)), ⟨(some 33), (some (32, false)), (.mov (t 5)), none, []⟩, ⟨(some 34), (some (32, false)), (.mov (t 0)), none, []⟩, ⟨(some 35), (some (32, false)), (.lenSlice (t 34)), none, []⟩, ⟨(some 36), (some (32, false)), (.bin .sub (t 35) (k (.int .i64 2))), none, []⟩, ⟨(some 37), (some (32, false)), (.bin .gtr (t 33) (t 36)), none, []⟩, i 38 (.pick (t 32) (k (.bool true)) (t 37))]) (.cond (t 38) (.seq (.ops [i 2 (.mov (k (.slice none 0 0))), i 3 (.mov (k (.int .i64 421)))]) .ret) .skip)) (.seq (.ops [i 39 (.mov (t 4)), i 40 (.mov (t 0)), i 41 (.mov (t 5)), i 42 (.bin .add (k (.int .i64 2)) (t 41)), i 43 (.sliceS 1 (t 40) (some (k (.int .i64 2))) (some (t 42)) none), i 44 (.b2s (t 43)), i 45 (.buildSlice 1 [(.string ⟨#[]⟩)] [(0, (1, (t 44)))]), i 46 (.append 1 16 false (t 39) (t 45)), i 4 (.mov (t 46))]) (.ops [i 47 (.mov (t 0)), i 48 (.mov (t 5)), i 49 (.bin .add (k (.int .i64 2)) (t 48)), i 50 (.sliceS 1 (t 47) (some (t 49)) none none), i 0 (.mov (t 50))])))))))
def c21 : ACode := (.seq (.ops [i 2 (.mov (k (.slice none 0 0))), i 3 (.mov (k (.int .i64 0)))]) (.seq (.seq (.ops [i 6 (.mov (t 0)), i 7 (.lenSlice (t 6)), i 8 (.bin .gtr (t 7) (k (.int .i64 4000)))]) (.cond (t 8) (.seq (.ops [i 2 (.mov (k (.slice none 0 0))), i 3 (.mov (k (.int .i64 421)))]) .ret) .skip)) (.seq (.ops [i 4 (.mov (k (.slice none 0 0)))]) (.seq (.block 0 (.loop l21_1)) (.seq (.ops [i 51 (.mov (t 4)), i 2 (.mov (t 51)), i 3 (.mov (k (.int .i64 0)))]) .ret)))))
def a21 : AFunc := ⟨52, [(.tmp 2), (.tmp 3)], c21⟩
theorem n21 : a21.ntmps = 52 := id rfl
theorem r21 : a21.results = [(.tmp 2), (.tmp 3)] := rfl
theorem b21 : a21.body = c21 := rfl
def l22_1 : ACode := (.seq (.seq (.ops [i 39 (.mov (t 6)), i 40 (.mov (t 0)), i 41 (.mov (t 5)), i 42 (.idxAddrS 1 (t 40) (t 41)), i 43 (.load1 (t 42)), i 44 (.lenStr (t 43)), i 45 (.bin .lss (t 39) (t 44))]) (.cond (t 45) .skip (.exit 2))) (.seq (.block 3 (.ops [i 48 (.mov (t 4)), i 49 (.mov (t 0)), i 50 (.mov (t 5)), i 51 (.idxAddrS 1 (t 49) (t 50)), i 52 (.load1 (t 51)), i 53 (.mov (t 6)), i 54 (.idxStr (t 52) (t 53)), i 55 (.buildSlice 1 [(.int .u8 0)] [(0, (1, (t 54)))]), i 56 (.append 1 1 false (t 48) (t 55)), i 4 (.mov (t 56))])) (.ops [i 46 (.mov (t 6)), i 47 (.bin .add (t 46) (k (.int .i64 1))), i 6 (.mov (t 47))])))
def l22_2 : ACode := (.seq (.seq (.ops [i 10 (.mov (t 5)), i 11 (.mov (t 0)), i 12 (.lenSlice (t 11)), i 13 (.bin .lss (t 10) (t 12))]) (.cond (t 13) .skip (.exit 0))) (.seq (.block 1 (.seq (.seq (.ops [i 16 (.mov (t 0)), i 17 (.mov (t 5)), i 18 (.idxAddrS 1 (t 16) (t 17)), i 19 (.load1 (t 18)), i 20 (.lenStr (t 19)), i 21 (.bin .gtr (t 20) (k (.int .i64 1000)))]) (.cond (t 21) (.seq (.ops [i 2 (.mov (k (.slice none 0 0))), i 3 (.mov (k (.int .i64 3)))]) .ret) .skip)) (.seq (.drawn 2 [i 22 (.mov (t 4)), i 23 (.mov (t 0)), i 24 (.mov (t 5)), i 25 (.idxAddrS 1 (t 23) (t 24)), ⟨(some 26), none, (.load1 (t 25)), none, [0, 1]⟩, i 27 (.lenStr (t 26)), i 28 (.bin .quo (t 27) (k (.int .i64 256))), i 29 (.conv .u8 (t 28)), i 30 (.mov (t 0)), i 31 (.mov (t 5)), i 32 (.idxAddrS 1 (t 30) (t 31)), ⟨(some 33), none, (.load1 (t 32)), none, [0, 1]⟩, i 34 (.lenStr (t 33)), i 35 (.bin .rem (t 34) (k (.int .i64 256))), i 36 (.conv .u8 (t 35)), ⟨(some 37), none, (.buildSlice 2 [(.int .u8 0), (.int .u8 0)] [(0, (1, (t 29))), (1, (1, (t 36)))]), (some 0), []⟩, ⟨(some 38), none, (.append 1 1 false (t 22) (t 37)), (some 1), []⟩, i 4 (.mov (t 38))]) (.seq (.ops [i 6 (.mov (k (.int .i64 0)))]) (.block 2 (.loop l22_1)))))) (.ops [i 14 (.mov (t 5)), i 15 (.bin .add (t 14) (k (.int .i64 1))), i 5 (.mov (t 15))])))
def c22 : ACode := (.seq (.ops [i 2 (.mov (k (.slice none 0 0))), i 3 (.mov (k (.int .i64 0)))]) (.seq (.seq (.ops [i 7 (.mov (t 0)), i 8 (.lenSlice (t 7)), i 9 (.bin .gtr (t 8) (k (.int .i64 100)))]) (.cond (t 9) (.seq (.ops [i 2 (.mov (k (.slice none 0 0))), i 3 (.mov (k (.int .i64 5)))]) .ret) .skip)) (.seq (.ops [i 4 (.mov (k (.slice none 0 0)))]) (.seq (.seq (.ops [i 5 (.mov (k (.int .i64 0)))]) (.block 0 (.loop l22_2))) (.seq (.seq (.ops [i 57 (.mov (t 4)), i 58 (.lenSlice (t 57)), i 59 (.bin .gtr (t 58) (k (.int .i64 4000)))]) (.cond (t 59) (.seq (.ops [i 2 (.mov (k (.slice none 0 0))), i 3 (.mov (k (.int .i64 3)))]) .ret) .skip)) (.seq (.ops [i 60 (.mov (t 4)), i 2 (.mov (t 60)), i 3 (.mov (k (.int .i64 0)))]) .ret))))))
def a22 : AFunc := ⟨61, [(.tmp 2), (.tmp 3)], c22⟩
theorem n22 : a22.ntmps = 61 := id rfl
theorem r22 : a22.results = [(.tmp 2), (.tmp 3)] := rfl
theorem b22 : a22.body = c22 := rfl
def l23_1 : ACode := (.seq (.seq (.ops [i 9 (.mov (t 5)), i 10 (.bin .add (t 9) (k (.int .i64 2))), i 11 (.mov (t 0)), i 12 (.lenSlice (t 11)), i 13 (.bin .leq (t 10) (t 12))]) (.cond (t 13) .skip (.exit 0))) (.block 1 (.seq (.drawn 0 [i 14 (.mov (t 0)), i 15 (.mov (t 5)), i 16 (.idxAddrS 1 (t 14) (t 15)), i 17 (.load1 (t 16)), i 18 (.conv .i64 (t 17)), i 19 (.bin .mul (t 18) (k (.int .i64 256))), i 20 (.mov (t 0)), i 21 (.mov (t 5)), i 22 (.bin .add (t 21) (k (.int .i64 1))), i 23 (.idxAddrS 1 (t 20) (t 22)), i 24 (.load1 (t 23)), i 25 (.conv .i64 (t 24)), i 26 (.bin .add (t 19) (t 25)), i 6 (.mov (t 26))]) (.seq (.seq (.ops [i 27 (.mov (t 5)), i 28 (.bin .add (t 27) (k (.int .i64 2))), i 29 (.mov (t 6)), i 30 (.bin .add (t 28) (t 29)), i 31 (.mov (t 0)), i 32 (.lenSlice (t 31)), i 33 (.bin .gtr (t 30) (t 32))]) (.cond (t 33) (.seq (.ops [i 2 (.mov (k (.slice none 0 0))), i 3 (.mov (k (.int .i64 421)))]) .ret) .skip)) (.seq (.ops [i 34 (.mov (t 4)), i 35 (.mov (t 0)), i 36 (.mov (t 5)), i 37 (.bin .add (t 36) (k (.int .i64 2))), i 38 (.mov (t 5)), i 39 (.bin .add (t 38) (k (.int .i64 2))), i 40 (.mov (t 6)), i 41 (.bin .add (t 39) (t 40)), i 42 (.sliceS 1 (t 35) (some (t 37)) (some (t 41)) none), i 43 (.b2s (t 42)), i 44 (.buildSlice 1 [(.string ⟨#[]⟩)] [(0, (1, (t 43)))]), i 45 (.append 1 16 false (t 34) (t 44)), i 4 (.mov (t 45))]) (.ops [i 46 (.mov (t 5)), i 47 (.mov (t 6)), i 48 (.bin .add (k (.int .i64 2)) (t 47)), i 49 (.bin .add (t 46) (t 48)), i 5 (.mov (t 49))]))))))
def c23 : ACode := (.seq (.ops [i 2 (.mov (k (.slice none 0 0))), i 3 (.mov (k (.int .i64 0)))]) (.seq (.ops [i 4 (.mov (k (.slice none 0 0)))]) (.seq (.ops [i 5 (.mov (k (.int .i64 0)))]) (.seq (.block 0 (.loop l23_1)) (.seq (.ops [i 51 (.mov (t 4)), i 52 (.call .any (.func 22) [(t 51)]), i 50 (.mov (t 52)), i 53 (.extract 0 (t 50)), i 54 (.extract 1 (t 50)), i 7 (.mov (t 53)), i 8 (.mov (t 54))]) (.seq (.seq (.ops [i 55 (.mov (t 5)), i 56 (.mov (t 0)), i 57 (.lenSlice (t 56)), i 58 (.bin .neq (t 55) (t 57)), i 59 (.mov (t 58)), ⟨(some 60), (some (59, false)), (.mov (t 8)), none, []⟩, ⟨(some 61), (some (59, false)), (.bin .neq (t 60) (k (.int .i64 0))), none, []⟩, i 62 (.pick (t 59) (k (.bool true)) (t 61)), i 63 (.mov (t 62)), ⟨(some 64), (some (63, false)), (.mov (t 7)), none, []⟩, ⟨(some 65), (some (63, false)), (.lenSlice (t 64)), none, []⟩, ⟨(some 66), (some (63, false)), (.mov (t 0)), none, []⟩, ⟨(some 67), (some (63, false)), (.lenSlice (t 66)), none, []⟩, ⟨(some 68), (some (63, false)), (.bin .neq (t 65) (t 67)), none, []⟩, i 69 (.pick (t 63) (k (.bool true)) (t 68))]) (.cond (t 69) (.seq (.ops [i 2 (.mov (k (.slice none 0 0))), i 3 (.mov (k (.int .i64 421)))]) .ret) .skip)) (.seq (.ops [i 70 (.mov (t 4)), i 2 (.mov (t 70)), i 3 (.mov (k (.int .i64 0)))]) .ret)))))))
def a23 : AFunc := ⟨71, [(.tmp 2), (.tmp 3)], c23⟩
theorem n23 : a23.ntmps = 71 := id rfl
theorem r23 : a23.results = [(.tmp 2), (.tmp 3)] := rfl
theorem b23 : a23.body = c23 := rfl
def l24_1 : ACode := (.seq (.seq (.ops [i 11 (.mov (t 5)), i 12 (.mov (t 0)), i 13 (.lenSlice (t 12)), i 14 (.bin .lss (t 11) (t 13))]) (.cond (t 14) .skip (.exit 0))) (.seq (.block 1 (.seq (.drawn 0 [i 17 (.mov (t 0)), i 18 (.mov (t 5)), i 19 (.idxAddrS 1 (t 17) (t 18)), i 20 (.load1 (t 19)), i 21 (.mov (t 1)), i 22 (.mov (t 5)), i 23 (.idxAddrS 1 (t 21) (t 22)), i 24 (.load1 (t 23)), i 25 (.bin .neq (t 20) (t 24))]) (.cond (t 25) (.seq (.ops [i 4 (.mov (k (.bool false)))]) .ret) .skip))) (.ops [i 15 (.mov (t 5)), i 16 (.bin .add (t 15) (k (.int .i64 1))), i 5 (.mov (t 16))])))
def c24 : ACode := (.seq (.ops [i 4 (.mov (k (.bool false)))]) (.seq (.seq (.ops [i 6 (.mov (t 0)), i 7 (.lenSlice (t 6)), i 8 (.mov (t 1)), i 9 (.lenSlice (t 8)), i 10 (.bin .neq (t 7) (t 9))]) (.cond (t 10) (.seq (.ops [i 4 (.mov (k (.bool false)))]) .ret) .skip)) (.seq (.seq (.ops [i 5 (.mov (k (.int .i64 0)))]) (.block 0 (.loop l24_1))) (.seq (.ops [i 4 (.mov (k (.bool true)))]) .ret))))
def a24 : AFunc := ⟨26, [(.tmp 4)], c24⟩
theorem n24 : a24.ntmps = 26 := id rfl
theorem r24 : a24.results = [(.tmp 4)] := rfl
theorem b24 : a24.body = c24 := rfl
def l25_1 : ACode := (.seq (.seq (.ops [i 11 (.mov (t 5)), i 12 (.mov (t 0)), i 13 (.lenSlice (t 12)), i 14 (.bin .lss (t 11) (t 13))]) (.cond (t 14) .skip (.exit 0))) (.seq (.block 1 (.seq (.drawn 0 [i 17 (.mov (t 0)), i 18 (.mov (t 5)), i 19 (.idxAddrS 1 (t 17) (t 18)), i 20 (.load1 (t 19)), i 21 (.mov (t 1)), i 22 (.mov (t 5)), i 23 (.idxAddrS 1 (t 21) (t 22)), i 24 (.load1 (t 23)), i 25 (.bin .neq (t 20) (t 24))]) (.cond (t 25) (.seq (.ops [i 4 (.mov (k (.bool false)))]) .ret) .skip))) (.ops [i 15 (.mov (t 5)), i 16 (.bin .add (t 15) (k (.int .i64 1))), i 5 (.mov (t 16))])))
def c25 : ACode := (.seq (.ops [i 4 (.mov (k (.bool false)))]) (.seq (.seq (.ops [i 6 (.mov (t 0)), i 7 (.lenSlice (t 6)), i 8 (.mov (t 1)), i 9 (.lenSlice (t 8)), i 10 (.bin .neq (t 7) (t 9))]) (.cond (t 10) (.seq (.ops [i 4 (.mov (k (.bool false)))]) .ret) .skip)) (.seq (.seq (.ops [i 5 (.mov (k (.int .i64 0)))]) (.block 0 (.loop l25_1))) (.seq (.ops [i 4 (.mov (k (.bool true)))]) .ret))))
def a25 : AFunc := ⟨26, [(.tmp 4)], c25⟩
theorem n25 : a25.ntmps = 26 := id rfl
theorem r25 : a25.results = [(.tmp 4)] := rfl
theorem b25 : a25.body = c25 := rfl
def l26_1 : ACode := (.seq (.seq (.ops [i 17 (.mov (t 6)), i 18 (.mov (t 5)), i 19 (.lenSlice (t 18)), i 20 (.bin .lss (t 17) (t 19))]) (.cond (t 20) .skip (.exit 0))) (.seq (.block 1 (.seq (.drawn 0 [i 23 (.mov (t 6)), i 24 (.mov (t 1)), i 25 (.lenSlice (t 24)), i 26 (.bin .lss (t 23) (t 25)), i 27 (.mov (t 26)), ⟨(some 28), (some (27, true)), (.mov (t 5)), none, []⟩, ⟨(some 29), (some (27, true)), (.mov (t 6)), none, []⟩, ⟨(some 30), (some (27, true)), (.idxAddrS 1 (t 28) (t 29)), none, []⟩, ⟨(some 31), (some (27, true)), (.load1 (t 30)), none, []⟩, ⟨(some 32), (some (27, true)), (.mov (t 1)), none, []⟩, ⟨(some 33), (some (27, true)), (.mov (t 6)), none, []⟩, ⟨(some 34), (some (27, true)), (.idxAddrS 1 (t 32) (t 33)), none, []⟩, ⟨(some 35), (some (27, true)), (.load1 (t 34)), none, []⟩, ⟨(some 36), (some (27, true)), (.bin .eql (t 31) (t 35)), none, []⟩, ⟨(some 37), (some (27, true)), (.un .not (t 36)), none, []⟩, i 38 (.pick (t 27) (t 37) (k (.bool false))), i 39 (.mov (t 38)), ⟨(some 40), (some (39, false)), (.mov (t 6)), none, []⟩, ⟨(some 41), (some (39, false)), (.mov (t 1)), none, []⟩, ⟨(some 42), (some (39, false)), (.lenSlice (t 41)), none, []⟩, ⟨(some 43), (some (39, false)), (.bin .geq (t 40) (t 42)), none, []⟩, ⟨(some 44), (some (39, false)), (.mov (t 43)), none, []⟩, ⟨(some 45), (some (44, true)), (.mov (t 5)), none, []⟩, ⟨(some 46), (some (44, true)), (.mov (t 6)), none, []⟩, ⟨(some 47), (some (44, true)), (.idxAddrS 1 (t 45) (t 46)), none, []⟩, ⟨(some 48), (some (44, true)), (.load1 (t 47)), none, []⟩, ⟨(some 49), (some (44, true)), (.mov (t 6)), none, []⟩, ⟨(some 50), (some (44, true)), (.mov (t 1)), none, []⟩, ⟨(some 51), (some (44, true)), (.lenSlice (t 50)), none, []⟩, ⟨(some 52), (some (44, true)), (.bin .sub (t 49) (t 51)), none, []⟩, ⟨(some 53), (some (44, true)), (.call .pure (.func 40) [(k (.int .i64 1)), (t 52)]), none, []⟩, ⟨(some 54), (some (44, true)), (.bin .eql (t 48) (t 53)), none, []⟩, ⟨(some 55), (some (44, true)), (.un .not (t 54)), none, []⟩, ⟨(some 56), (some (39, false)), (.pick (t 44) (t 55) (k (.bool false))), none, []⟩, i 57 (.pick (t 39) (k (.bool true)) (t 56))]) (.cond (t 57) (.seq (.ops [i 4 (.mov (k (.bool false)))]) .ret) .skip))) (.ops [i 21 (.mov (t 6)), i 22 (.bin .add (t 21) (k (.int .i64 1))), i 6 (.mov (t 22))])))
def c26 : ACode := (.seq (.ops [i 4 (.mov (k (.bool false)))]) (.seq (.seq (.ops [i 7 (.mov (t 0)), i 8 (.lenSlice (t 7)), i 9 (.mov (t 1)), i 10 (.lenSlice (t 9)), i 11 (.bin .neq (t 8) (t 10))]) (.cond (t 11) (.seq (.ops [i 4 (.mov (k (.bool false)))]) .ret) .skip)) (.seq (.ops [i 12 (.mov (t 0)), i 13 (.mov (t 1)), i 14 (.lenSlice (t 13)), i 15 (.bin .add (t 14) (k (.int .i64 12))), i 16 (.sliceS 1 (t 12) none (some (t 15)) none), i 5 (.mov (t 16))]) (.seq (.seq (.ops [i 6 (.mov (k (.int .i64 0)))]) (.block 0 (.loop l26_1))) (.seq (.ops [i 4 (.mov (k (.bool true)))]) .ret)))))
def a26 : AFunc := ⟨58, [(.tmp 4)], c26⟩
theorem n26 : a26.ntmps = 58 := id rfl
theorem r26 : a26.results = [(.tmp 4)] := rfl
theorem b26 : a26.body = c26 := rfl
def l27_1 : ACode := (.seq (.seq (.ops [i 17 (.mov (t 6)), i 18 (.mov (t 5)), i 19 (.lenSlice (t 18)), i 20 (.bin .lss (t 17) (t 19))]) (.cond (t 20) .skip (.exit 0))) (.seq (.block 1 (.seq (.drawn 0 [i 23 (.mov (t 6)), i 24 (.mov (t 1)), i 25 (.lenSlice (t 24)), i 26 (.bin .lss (t 23) (t 25)), i 27 (.mov (t 26)), ⟨(some 28), (some (27, true)), (.mov (t 5)), none, []⟩, ⟨(some 29), (some (27, true)), (.mov (t 6)), none, []⟩, ⟨(some 30), (some (27, true)), (.idxAddrS 1 (t 28) (t 29)), none, []⟩, ⟨(some 31), (some (27, true)), (.load1 (t 30)), none, []⟩, ⟨(some 32), (some (27, true)), (.mov (t 1)), none, []⟩, ⟨(some 33), (some (27, true)), (.mov (t 6)), none, []⟩, ⟨(some 34), (some (27, true)), (.idxAddrS 1 (t 32) (t 33)), none, []⟩, ⟨(some 35), (some (27, true)), (.load1 (t 34)), none, []⟩, ⟨(some 36), (some (27, true)), (.bin .eql (t 31) (t 35)), none, []⟩, ⟨(some 37), (some (27, true)), (.un .not (t 36)), none, []⟩, i 38 (.pick (t 27) (t 37) (k (.bool false))), i 39 (.mov (t 38)), ⟨(some 40), (some (39, false)), (.mov (t 6)), none, []⟩, ⟨(some 41), (some (39, false)), (.mov (t 1)), none, []⟩, ⟨(some 42), (some (39, false)), (.lenSlice (t 41)), none, []⟩, ⟨(some 43), (some (39, false)), (.bin .geq (t 40) (t 42)), none, []⟩, ⟨(some 44), (some (39, false)), (.mov (t 43)), none, []⟩, ⟨(some 45), (some (44, true)), (.mov (t 5)), none, []⟩, ⟨(some 46), (some (44, true)), (.mov (t 6)), none, []⟩, ⟨(some 47), (some (44, true)), (.idxAddrS 1 (t 45) (t 46)), none, []⟩, ⟨(some 48), (some (44, true)), (.load1 (t 47)), none, []⟩, ⟨(some 49), (some (44, true)), (.mov (t 6)), none, []⟩, ⟨(some 50), (some (44, true)), (.mov (t 1)), none, []⟩, ⟨(some 51), (some (44, true)), (.lenSlice (t 50)), none, []⟩, ⟨(some 52), (some (44, true)), (.bin .sub (t 49) (t 51)), none, []⟩, ⟨(some 53), (some (44, true)), (.call .pure (.func 41) [(k (.int .i64 1)), (t 52)]), none, []⟩, ⟨(some 54), (some (44, true)), (.bin .eql (t 48) (t 53)), none, []⟩, ⟨(some 55), (some (44, true)), (.un .not (t 54)), none, []⟩, ⟨(some 56), (some (39, false)), (.pick (t 44) (t 55) (k (.bool false))), none, []⟩, i 57 (.pick (t 39) (k (.bool true)) (t 56))]) (.cond (t 57) (.seq (.ops [i 4 (.mov (k (.bool false)))]) .ret) .skip))) (.ops [i 21 (.mov (t 6)), i 22 (.bin .add (t 21) (k (.int .i64 1))), i 6 (.mov (t 22))])))
def c27 : ACode := (.seq (.ops [i 4 (.mov (k (.bool false)))]) (.seq (.seq (.ops [i 7 (.mov (t 0)), i 8 (.lenSlice (t 7)), i 9 (.mov (t 1)), i 10 (.lenSlice (t 9)), i 11 (.bin .neq (t 8) (t 10))]) (.cond (t 11) (.seq (.ops [i 4 (.mov (k (.bool false)))]) .ret) .skip)) (.seq (.ops [i 12 (.mov (t 0)), i 13 (.mov (t 1)), i 14 (.lenSlice (t 13)), i 15 (.bin .add (t 14) (k (.int .i64 12))), i 16 (.sliceS 1 (t 12) none (some (t 15)) none), i 5 (.mov (t 16))]) (.seq (.seq (.ops [i 6 (.mov (k (.int .i64 0)))]) (.block 0 (.loop l27_1))) (.seq (.ops [i 4 (.mov (k (.bool true)))]) .ret)))))
def a27 : AFunc := ⟨58, [(.tmp 4)], c27⟩
theorem n27 : a27.ntmps = 58 := id rfl
theorem r27 : a27.results = [(.tmp 4)] := rfl
theorem b27 : a27.body = c27 := rfl
def c28 : ACode := (.seq (.ops [i 2 (.mov (k (.pointer none))), i 3 (.mov (k (.pointer none))), i 4 (.mov (k (.bool false)))]) (.seq (.ops [i 9 (.mov (t 0)), i 10 (.bin .rem (t 9) (k (.int .u8 64))), i 11 (.conv .i64 (t 10)), i 12 (.bin .add (k (.int .i64 4)) (t 11)), i 13 (.call .any (.func 38) [(t 12)]), i 8 (.mov (t 13)), i 14 (.extract 0 (t 8)), i 15 (.extract 1 (t 8)), i 5 (.mov (t 14)), i 6 (.mov (t 15))]) (.seq (.seq (.ops [i 16 (.mov (t 6)), i 17 (.bin .neq (t 16) (k (.int .i64 0))), i 18 (.mov (t 17)), ⟨(some 19), (some (18, false)), (.mov (t 5)), none, []⟩, ⟨(some 20), (some (18, false)), (.eqv false .ptr (t 19) (k (.pointer none))), none, []⟩, i 21 (.pick (t 18) (k (.bool true)) (t 20))]) (.cond (t 21) (.seq (.ops [i 2 (.mov (k (.pointer none))), i 3 (.mov (k (.pointer none))), i 4 (.mov (k (.bool false)))]) .ret) .skip)) (.seq (.ops [i 23 (.mov (t 5)), i 24 (.call .any (.func 35) [(t 23)]), i 22 (.mov (t 24)), i 25 (.extract 0 (t 22)), i 26 (.extract 1 (t 22)), i 7 (.mov (t 25)), i 6 (.mov (t 26))]) (.seq (.ops [i 27 (.mov (t 7)), i 28 (.mov (t 5)), i 29 (.mov (t 6)), i 30 (.bin .eql (t 29) (k (.int .i64 0))), i 2 (.mov (t 27)), i 3 (.mov (t 28)), i 4 (.mov (t 30))]) .ret)))))
def a28 : AFunc := ⟨31, [(.tmp 2), (.tmp 3), (.tmp 4)], c28⟩
theorem n28 : a28.ntmps = 31 := id rfl
theorem r28 : a28.results = [(.tmp 2), (.tmp 3), (.tmp 4)] := rfl
theorem b28 : a28.body = c28 := rfl
def l29_1 : ACode := (.seq (.seq (.ops [i 7 (.mov (t 6)), i 8 (.fieldAddr 1 (t 2)), i 9 (.load1 (t 8)), i 10 (.conv .i64 (t 9)), i 11 (.bin .rem (t 10) (k (.int .i64 61))), i 12 (.bin .lss (t 7) (t 11))]) (.cond (t 12) .skip (.exit 0))) (.seq (.block 1 (.ops [i 15 (.mov (t 5)), i 16 (.fieldAddr 2 (t 2)), i 17 (.load1 (t 16)), i 18 (.mov (t 6)), i 19 (.bin .mul (k (.int .i64 7)) (t 18)), i 20 (.mov (t 1)), i 21 (.bin .add (t 19) (t 20)), i 22 (.conv .u8 (t 21)), i 23 (.bin .add (t 17) (t 22)), i 24 (.buildSlice 1 [(.int .u8 0)] [(0, (1, (t 23)))]), i 25 (.append 1 1 false (t 15) (t 24)), i 5 (.mov (t 25))])) (.ops [i 13 (.mov (t 6)), i 14 (.bin .add (t 13) (k (.int .i64 1))), i 6 (.mov (t 14))])))
def c29 : ACode := (.seq (.ops [i 2 (.box (t 0)), i 4 (.mov (k (.slice none 0 0)))]) (.seq (.ops [i 5 (.mov (k (.slice none 0 0)))]) (.seq (.seq (.ops [i 6 (.mov (k (.int .i64 0)))]) (.block 0 (.loop l29_1))) (.seq (.ops [i 26 (.mov (t 5)), i 4 (.mov (t 26))]) .ret))))
def a29 : AFunc := ⟨27, [(.tmp 4)], c29⟩
theorem n29 : a29.ntmps = 27 := id rfl
theorem r29 : a29.results = [(.tmp 4)] := rfl
theorem b29 : a29.body = c29 := rfl
def c30 : ACode := (.seq (.ops [i 4 (.mov (k (.int .i64 0)))]) (.seq (.block 0 (.seq (.ops [i 6 (.mov (t 0)), i 7 (.call .any (.func 42) [(t 6)]), i 5 (.mov (t 7))]) (.cond (t 5) (.seq (.ops [i 4 (.mov (k (.int .i64 1)))]) .ret) (.seq (.ops [i 9 (.mov (t 1)), i 10 (.lenSlice (t 9)), i 11 (.bin .gtr (t 10) (k (.int .i64 4000))), i 8 (.mov (t 11))]) (.cond (t 8) (.seq (.ops [i 4 (.mov (k (.int .i64 3)))]) .ret) (.seq (.drawn 0 [i 13 (.mov (t 1)), i 14 (.call .pure (.func 43) [(t 13)]), i 15 (.mov (t 0)), i 16 (.nilCheck (t 15)), i 17 (.fieldAddr 0 (t 16)), i 18 (.load1 (t 17)), i 19 (.call .pure (.func 44) [(t 18)]), i 20 (.bin .gtr (t 14) (t 19)), i 12 (.mov (t 20))]) (.cond (t 12) (.seq (.ops [i 4 (.mov (k (.int .i64 4)))]) .ret) (.seq (.ops [i 22 (.mov (t 0)), i 23 (.nilCheck (t 22)), i 24 (.fieldAddr 2 (t 23)), i 25 (.load1 (t 24)), i 26 (.bin .geq (t 25) (k (.int .i64 1073741824))), i 21 (.mov (t 26))]) (.cond (t 21) (.seq (.ops [i 4 (.mov (k (.int .i64 420)))]) .ret) .skip))))))))) (.seq (.drawn 0 [i 27 (.mov (t 0)), i 28 (.mov (t 0)), i 29 (.mov (t 0)), i 30 (.mov (t 0)), i 31 (.nilCheck (t 30)), i 32 (.fieldAddr 1 (t 31)), i 33 (.load1 (t 32)), i 34 (.bin .sub (k (.int .i64 1)) (t 33)), i 35 (.mov (t 0)), i 36 (.nilCheck (t 35)), i 37 (.fieldAddr 2 (t 36)), i 38 (.load1 (t 37)), i 39 (.bin .add (t 38) (k (.int .i64 1))), i 40 (.nilCheck (t 27)), i 41 (.fieldAddr 1 (t 40)), ⟨none, none, (.store 1 (t 41) (t 34)), none, []⟩, i 42 (.nilCheck (t 28)), i 43 (.fieldAddr 2 (t 42)), ⟨none, none, (.store 1 (t 43) (t 39)), none, []⟩, i 44 (.nilCheck (t 29)), i 45 (.fieldAddr 4 (t 44)), ⟨none, none, (.store 1 (t 45) (k (.int .i64 0))), none, []⟩]) (.seq (.ops [i 46 (.mov (t 0)), i 47 (.mov (t 1)), i 48 (.call .any (.func 45) [(t 46), (t 47)])]) (.seq (.ops [i 49 (.mov (t 0)), i 50 (.nilCheck (t 49)), i 51 (.fieldAddr 0 (t 50)), i 52 (.load1 (t 51)), i 53 (.call .any (.func 14) [(t 52)])]) (.seq (.ops [i 4 (.mov (k (.int .i64 0)))]) .ret))))))
def a30 : AFunc := ⟨54, [(.tmp 4)], c30⟩
theorem n30 : a30.ntmps = 54 := id rfl
theorem r30 : a30.results = [(.tmp 4)] := rfl
theorem b30 : a30.body = c30 := rfl
def c31 : ACode := (.seq (.ops [i 4 (.mov (k (.int .i64 0)))]) (.seq (.block 0 (.seq (.ops [i 6 (.mov (t 0)), i 7 (.call .any (.func 42) [(t 6)]), i 5 (.mov (t 7))]) (.cond (t 5) (.seq (.ops [i 4 (.mov (k (.int .i64 1)))]) .ret) (.seq (.ops [i 9 (.mov (t 1)), i 10 (.lenSlice (t 9)), i 11 (.bin .gtr (t 10) (k (.int .i64 4000))), i 8 (.mov (t 11))]) (.cond (t 8) (.seq (.ops [i 4 (.mov (k (.int .i64 3)))]) .ret) (.seq (.ops [i 13 (.mov (t 1)), i 14 (.call .any (.func 43) [(t 13)]), i 15 (.mov (t 0)), i 16 (.call .any (.func 32) [(t 15)]), i 17 (.bin .gtr (t 14) (t 16)), i 12 (.mov (t 17))]) (.cond (t 12) (.seq (.ops [i 4 (.mov (k (.int .i64 4)))]) .ret) .skip))))))) (.seq (.ops [i 18 (.mov (t 0)), i 19 (.mov (t 1)), i 20 (.call .any (.func 45) [(t 18), (t 19)])]) (.seq (.ops [i 4 (.mov (k (.int .i64 0)))]) .ret))))
def a31 : AFunc := ⟨21, [(.tmp 4)], c31⟩
theorem n31 : a31.ntmps = 21 := id rfl
theorem r31 : a31.results = [(.tmp 4)] := rfl
theorem b31 : a31.body = c31 := rfl
def c32 : ACode := (.seq (.ops [i 2 (.mov (k (.int .i64 0)))]) (.seq (.seq (.ops [i 3 (.mov (t 0)), i 4 (.call .any (.func 42) [(t 3)])]) (.cond (t 4) (.seq (.ops [i 2 (.mov (k (.int .i64 0)))]) .ret) .skip)) (.seq (.drawn 0 [i 5 (.mov (t 0)), i 6 (.nilCheck (t 5)), i 7 (.fieldAddr 0 (t 6)), i 8 (.load1 (t 7)), i 9 (.call .pure (.func 44) [(t 8)]), i 10 (.mov (t 0)), i 11 (.nilCheck (t 10)), i 12 (.fieldAddr 4 (t 11)), i 13 (.load1 (t 12)), i 14 (.bin .sub (t 9) (t 13)), i 15 (.minmax true [(k (.int .i64 0)), (t 14)]), i 2 (.mov (t 15))]) .ret)))
def a32 : AFunc := ⟨16, [(.tmp 2)], c32⟩
theorem n32 : a32.ntmps = 16 := id rfl
theorem r32 : a32.results = [(.tmp 2)] := rfl
theorem b32 : a32.body = c32 := rfl
def c33 : ACode := (.seq (.ops [i 2 (.mov (k (.slice none 0 0)))]) (.seq (.seq (.ops [i 6 (.mov (t 0)), i 7 (.call .any (.func 42) [(t 6)])]) (.cond (t 7) (.seq (.ops [i 2 (.mov (k (.slice none 0 0)))]) .ret) .skip)) (.seq (.drawn 0 [i 9 (.mov (t 0)), i 10 (.nilCheck (t 9)), i 11 (.fieldAddr 0 (t 10)), i 12 (.load1 (t 11)), i 14 (.mov (t 0)), i 15 (.nilCheck (t 14)), i 16 (.fieldAddr 1 (t 15)), i 17 (.load1 (t 16)), i 13 (.call .mk (.func 47) [(t 12)]), i 18 (.idxA 2 1 false (t 13) (t 17)), i 19 (.call .any (.func 46) [(t 18)]), i 8 (.mov (t 19)), i 20 (.extract 0 (t 8)), i 21 (.extract 1 (t 8)), i 22 (.extract 2 (t 8)), i 3 (.mov (t 20)), i 4 (.mov (t 21)), i 5 (.mov (t 22))]) (.seq (.ops [i 23 (.mov (t 3)), i 2 (.mov (t 23))]) .ret))))
def a33 : AFunc := ⟨24, [(.tmp 2)], c33⟩
theorem n33 : a33.ntmps = 24 := id rfl
theorem r33 : a33.results = [(.tmp 2)] := rfl
theorem b33 : a33.body = c33 := rfl
def c34 : ACode := (.seq (.ops [i 2 (.mov (k (.int .i64 0)))]) (.seq (.seq (.ops [i 3 (.mov (t 0)), i 4 (.call .any (.func 42) [(t 3)])]) (.cond (t 4) (.seq (.ops [i 2 (.mov (k (.int .i64 1)))]) .ret) .skip)) (.seq (.ops [i 5 (.mov (t 0)), i 6 (.nilCheck (t 5)), i 7 (.fieldAddr 0 (t 6)), i 8 (.load1 (t 7)), i 9 (.call .any (.func 14) [(t 8)])]) (.seq (.ops [i 2 (.mov (k (.int .i64 0)))]) .ret))))
def a34 : AFunc := ⟨10, [(.tmp 2)], c34⟩
theorem n34 : a34.ntmps = 10 := id rfl
theorem r34 : a34.results = [(.tmp 2)] := rfl
theorem b34 : a34.body = c34 := rfl
def l35_1 : ACode := (.seq (.ops [i 38 (.bin .lss (t 37) (k (.int .i64 2)))]) (.seq (.cond (t 38) .skip (.exit 0)) (.seq (.block 1 (.seq (.ops [i 39 (.mov (t 37)), i 40 (.idxA 2 1 false (t 36) (t 37)), i 9 (.mov (t 39)), i 10 (.mov (t 40))]) (.seq (.ops [i 42 (.mov (t 10)), i 43 (.call .any (.func 46) [(t 42)]), i 41 (.mov (t 43)), i 44 (.extract 0 (t 41)), i 45 (.extract 1 (t 41)), i 46 (.extract 2 (t 41)), i 11 (.mov (t 44)), i 12 (.mov (t 45)), i 13 (.mov (t 46))]) (.seq (.ops [i 47 (.mov (t 11)), i 48 (.lenSlice (t 47)), i 49 (.bin .gtr (t 48) (k (.int .i64 0))), i 50 (.mov (t 49)), ⟨(some 51), (some (50, true)), (.mov (t 8)), none, []⟩, ⟨(some 52), (some (50, true)), (.un .not (t 51)), none, []⟩, ⟨(some 53), (some (50, true)), (.mov (t 52)), none, []⟩, ⟨(some 54), (some (53, false)), (.mov (t 12)), none, []⟩, ⟨(some 55), (some (53, false)), (.mov (t 7)), none, []⟩, ⟨(some 56), (some (53, false)), (.nilCheck (t 55)), none, []⟩, ⟨(some 57), (some (53, false)), (.fieldAddr 2 (t 56)), none, []⟩, ⟨(some 58), (some (53, false)), (.load1 (t 57)), none, []⟩, ⟨(some 59), (some (53, false)), (.bin .gtr (t 54) (t 58)), none, []⟩, ⟨(some 60), (some (50, true)), (.pick (t 53) (k (.bool true)) (t 59)), none, []⟩, i 61 (.pick (t 50) (t 60) (k (.bool false)))]) (.cond (t 61) (.seq (.ops [i 8 (.mov (k (.bool true)))]) (.ops [i 62 (.mov (t 7)), i 63 (.mov (t 7)), i 64 (.mov (t 7)), i 65 (.mov (t 9)), i 66 (.mov (t 12)), i 67 (.mov (t 13)), i 68 (.nilCheck (t 62)), i 69 (.fieldAddr 1 (t 68)), ⟨none, none, (.store 1 (t 69) (t 65)), none, []⟩, i 70 (.nilCheck (t 63)), i 71 (.fieldAddr 2 (t 70)), ⟨none, none, (.store 1 (t 71) (t 66)), none, []⟩, i 72 (.nilCheck (t 64)), i 73 (.fieldAddr 4 (t 72)), ⟨none, none, (.store 1 (t 73) (t 67)), none, []⟩])) .skip))))) (.ops [i 74 (.bin .add (t 37) (k (.int .i64 1))), i 37 (.mov (t 74))]))))
def c35 : ACode := (.seq (.ops [i 2 (.mov (k (.pointer none))), i 3 (.mov (k (.int .i64 0)))]) (.seq (.seq (.ops [i 14 (.mov (t 0)), i 15 (.eqv false .ptr (t 14) (k (.pointer none))), i 16 (.mov (t 15)), ⟨(some 17), (some (16, false)), (.mov (t 0)), none, []⟩, ⟨(some 18), (some (16, false)), (.call .any (.func 48) [(t 17)]), none, []⟩, ⟨(some 19), (some (16, false)), (.un .not (t 18)), none, []⟩, i 20 (.pick (t 16) (k (.bool true)) (t 19))]) (.cond (t 20) (.seq (.ops [i 2 (.mov (k (.pointer none))), i 3 (.mov (k (.int .i64 2)))]) .ret) .skip)) (.seq (.ops [i 21 (.mov (t 0)), i 22 (.call .any (.func 47) [(t 21)]), i 4 (.alloc [(.slice none 0 0), (.slice none 0 0)]), ⟨none, none, (.store 2 (t 4) (t 22)), none, []⟩]) (.seq (.ops [i 24 (.loadN 2 (t 4)), i 25 (.call .any (.func 49) [(t 24)]), i 23 (.mov (t 25)), i 26 (.extract 0 (t 23)), i 27 (.extract 1 (t 23)), i 5 (.mov (t 26)), i 6 (.mov (t 27))]) (.seq (.seq (.ops [i 28 (.mov (t 6)), i 29 (.bin .add (t 28) (k (.int .i64 1))), i 6 (.mov (t 29))]) (.seq (.ops [i 30 (.mov (t 6)), i 31 (.bin .gtr (t 30) (k (.int .i64 1073741824)))]) (.cond (t 31) (.seq (.ops [i 2 (.mov (k (.pointer none))), i 3 (.mov (k (.int .i64 420)))]) .ret) .skip))) (.seq (.ops [i 32 (.mov (t 0)), i 33 (.mov (t 6)), i 34 (.build [(.pointer none), (.int .i64 0), (.int .i64 0), (.int .i64 0), (.int .i64 0)] [(0, (1, (t 32))), (3, (1, (t 33)))]), i 35 (.box (t 34)), i 7 (.mov (t 35))]) (.seq (.ops [i 8 (.mov (k (.bool false)))]) (.seq (.seq (.ops [i 36 (.loadN 2 (t 4)), i 37 (.mov (k (.int .i64 0)))]) (.block 0 (.loop l35_1))) (.seq (.seq (.ops [i 75 (.mov (t 8)), i 76 (.un .not (t 75))]) (.cond (t 76) (.seq (.seq (.ops [i 77 (.mov (t 5)), i 78 (.bin .add (t 77) (k (.int .i64 1))), i 5 (.mov (t 78))]) (.seq (.ops [i 79 (.mov (t 5)), i 80 (.bin .gtr (t 79) (k (.int .i64 1073741824)))]) (.cond (t 80) (.seq (.ops [i 2 (.mov (k (.pointer none))), i 3 (.mov (k (.int .i64 420)))]) .ret) .skip))) (.ops [i 81 (.mov (t 7)), i 82 (.mov (t 5)), i 83 (.nilCheck (t 81)), i 84 (.fieldAddr 2 (t 83)), ⟨none, none, (.store 1 (t 84) (t 82)), none, []⟩])) .skip)) (.seq (.ops [i 85 (.mov (t 0)), i 86 (.mov (t 0)), i 87 (.nilCheck (t 86)), i 88 (.fieldAddr 1 (t 87)), i 89 (.load1 (t 88)), i 90 (.call .any (.func 50) [(t 89)]), i 91 (.nilCheck (t 85)), i 92 (.fieldAddr 1 (t 91)), ⟨none, none, (.store 1 (t 92) (t 90)), none, []⟩]) (.seq (.seq (.ops [i 93 (.mov (t 8)), i 94 (.un .not (t 93))]) (.cond (t 94) (.seq (.ops [i 95 (.mov (t 7)), i 96 (.call .any (.func 45) [(t 95), (k (.slice none 0 0))])]) (.ops [i 97 (.mov (t 0)), i 98 (.call .any (.func 14) [(t 97)])])) .skip)) (.seq (.ops [i 99 (.mov (t 7)), i 2 (.mov (t 99)), i 3 (.mov (k (.int .i64 0)))]) .ret))))))))))))
def a35 : AFunc := ⟨100, [(.tmp 2), (.tmp 3)], c35⟩
theorem n35 : a35.ntmps = 100 := id rfl
theorem r35 : a35.results = [(.tmp 2), (.tmp 3)] := rfl
theorem b35 : a35.body = c35 := rfl
def l36_1 : ACode := (.seq (.ops [i 14 (.bin .lss (t 13) (t 12))]) (.seq (.cond (t 14) .skip (.exit 0)) (.seq (.block 1 (.seq (.ops [i 15 (.mov (t 13)), i 5 (.mov (t 15))]) (.seq (.drawn 0 [i 16 (.mov (t 0)), i 17 (.mov (t 5)), i 18 (.idxAddrS 1 (t 16) (t 17)), i 19 (.load1 (t 18)), i 20 (.mov (t 1)), i 21 (.mov (t 5)), i 22 (.idxAddrS 1 (t 20) (t 21)), i 23 (.load1 (t 22)), i 24 (.call .pure (.func 24) [(t 19), (t 23)]), i 25 (.un .not (t 24))]) (.cond (t 25) (.seq (.ops [i 4 (.mov (k (.bool false)))]) .ret) .skip)))) (.ops [i 26 (.bin .add (t 13) (k (.int .i64 1))), i 13 (.mov (t 26))]))))
def c36 : ACode := (.seq (.ops [i 4 (.mov (k (.bool false)))]) (.seq (.seq (.ops [i 6 (.mov (t 0)), i 7 (.lenSlice (t 6)), i 8 (.mov (t 1)), i 9 (.lenSlice (t 8)), i 10 (.bin .neq (t 7) (t 9))]) (.cond (t 10) (.seq (.ops [i 4 (.mov (k (.bool false)))]) .ret) .skip)) (.seq (.seq (.ops [i 11 (.mov (t 0)), i 12 (.lenSlice (t 11)), i 13 (.mov (k (.int .i64 0)))]) (.block 0 (.loop l36_1))) (.seq (.ops [i 4 (.mov (k (.bool true)))]) .ret))))
def a36 : AFunc := ⟨27, [(.tmp 4)], c36⟩
theorem n36 : a36.ntmps = 27 := id rfl
theorem r36 : a36.results = [(.tmp 4)] := rfl
theorem b36 : a36.body = c36 := rfl
def c37 : ACode := (.seq (.ops [i 2 (.mov (k (.pointer none)))]) (.seq (.drawn 5 [⟨(some 3), none, (.buildSlice 0 [] []), (some 0), []⟩, i 4 (.mov (t 0)), i 5 (.nilCheck (t 4)), i 6 (.fieldAddr 0 (t 5)), ⟨(some 7), none, (.load1 (t 6)), none, [0, 1, 2, 3, 4]⟩, ⟨(some 8), none, (.append0 32 32 false (t 3) (t 7)), (some 1), [2, 3, 4]⟩, ⟨(some 9), none, (.buildSlice 0 [] []), (some 2), []⟩, i 10 (.mov (t 0)), i 11 (.nilCheck (t 10)), i 12 (.fieldAddr 1 (t 11)), ⟨(some 13), none, (.load1 (t 12)), none, [0, 1, 2, 3, 4]⟩, ⟨(some 14), none, (.append0 33 40 false (t 9) (t 13)), (some 3), [4]⟩, i 15 (.build [(.slice none 0 0), (.slice none 0 0)] [(0, (1, (t 8))), (1, (1, (t 14)))]), ⟨(some 16), none, (.box (t 15)), (some 4), []⟩, i 2 (.mov (t 16))]) .ret))
def a37 : AFunc := ⟨17, [(.tmp 2)], c37⟩
theorem n37 : a37.ntmps = 17 := id rfl
theorem r37 : a37.results = [(.tmp 2)] := rfl
theorem b37 : a37.body = c37 := rfl
def c38 : ACode := (.seq (.ops [i 2 (.mov (k (.pointer none))), i 3 (.mov (k (.int .i64 0)))]) (.seq (.seq (.ops [i 4 (.mov (t 0)), i 5 (.bin .lss (t 4) (k (.int .i64 4))), i 6 (.mov (t 5)), ⟨(some 7), (some (6, false)), (.mov (t 0)), none, []⟩, ⟨(some 8), (some (6, false)), (.bin .gtr (t 7) (k (.int .i64 32768))), none, []⟩, i 9 (.pick (t 6) (k (.bool true)) (t 8))]) (.cond (t 9) (.seq (.ops [i 2 (.mov (k (.pointer none))), i 3 (.mov (k (.int .i64 2)))]) .ret) .skip)) (.seq (.ops [i 10 (.mov (t 0)), i 11 (.makeSlice 32 32 [(.int .u8 0), (.int .u8 0), (.int .u8 0), (.int .u8 0), (.int .u8 0), (.int .u8 0), (.int .u8 0), (.int .u8 0), (.int .u8 0), (.int .u8 0), (.int .u8 0), (.int .u8 0), (.int .u8 0), (.int .u8 0), (.int .u8 0), (.int .u8 0), (.int .u8 0), (.int .u8 0), (.int .u8 0), (.int .u8 0), (.int .u8 0), (.int .u8 0), (.int .u8 0), (.int .u8 0), (.int .u8 0), (.int .u8 0), (.int .u8 0), (.int .u8 0), (.int .u8 0), (.int .u8 0), (.int .u8 0), (.int .u8 0)] (t 10) (t 10)), i 12 (.build [(.slice none 0 0), (.slice none 0 0)] [(0, (1, (t 11)))]), i 13 (.box (t 12)), i 2 (.mov (t 13)), i 3 (.mov (k (.int .i64 0)))]) .ret)))
def a38 : AFunc := ⟨14, [(.tmp 2), (.tmp 3)], c38⟩
theorem n38 : a38.ntmps = 14 := id rfl
theorem r38 : a38.results = [(.tmp 2), (.tmp 3)] := rfl
theorem b38 : a38.body = c38 := rfl
def c39 : ACode := (.seq (.ops [i 4 (.mov (k (.bool false)))]) (.seq (.ops [i 5 (.mov (t 1)), i 6 (.bin .geq (t 5) (k (.int .i64 0))), i 7 (.mov (t 6)), ⟨(some 8), (some (7, true)), (.mov (t 1)), none, []⟩, ⟨(some 9), (some (7, true)), (.mov (t 0)), none, []⟩, ⟨(some 10), (some (7, true)), (.nilCheck (t 9)), none, []⟩, ⟨(some 11), (some (7, true)), (.fieldAddr 0 (t 10)), none, []⟩, ⟨(some 12), (some (7, true)), (.load1 (t 11)), none, []⟩, ⟨(some 13), (some (7, true)), (.lenSlice (t 12)), none, []⟩, ⟨(some 14), (some (7, true)), (.bin .lss (t 8) (t 13)), none, []⟩, i 15 (.pick (t 7) (t 14) (k (.bool false))), i 4 (.mov (t 15))]) .ret))
def a39 : AFunc := ⟨16, [(.tmp 4)], c39⟩
theorem n39 : a39.ntmps = 16 := id rfl
theorem r39 : a39.results = [(.tmp 4)] := rfl
theorem b39 : a39.body = c39 := rfl
def c40 : ACode := (.seq (.ops [i 4 (.mov (k (.string ⟨#[]⟩)))]) (.seq (.ops [i 5 (.mov (t 0)), i 6 (.conv .u8 (t 5)), i 7 (.mov (t 0)), i 8 (.bin .shr (t 7) (k (.int .u64 8))), i 9 (.conv .u8 (t 8)), i 10 (.mov (t 0)), i 11 (.bin .shr (t 10) (k (.int .u64 16))), i 12 (.conv .u8 (t 11)), i 13 (.mov (t 1)), i 14 (.conv .u8 (t 13)), i 15 (.mov (t 1)), i 16 (.bin .shr (t 15) (k (.int .u64 8))), i 17 (.conv .u8 (t 16)), i 18 (.mov (t 1)), i 19 (.bin .shr (t 18) (k (.int .u64 16))), i 20 (.conv .u8 (t 19)), i 21 (.buildSlice 8 [(.int .u8 0), (.int .u8 0), (.int .u8 0), (.int .u8 0), (.int .u8 0), (.int .u8 0), (.int .u8 0), (.int .u8 0)] [(0, (1, (k (.int .u8 35)))), (1, (1, (t 6))), (2, (1, (t 9))), (3, (1, (t 12))), (4, (1, (k (.int .u8 47)))), (5, (1, (t 14))), (6, (1, (t 17))), (7, (1, (t 20)))]), i 22 (.b2s (t 21)), i 4 (.mov (t 22))]) .ret))
def a40 : AFunc := ⟨23, [(.tmp 4)], c40⟩
theorem n40 : a40.ntmps = 23 := id rfl
theorem r40 : a40.results = [(.tmp 4)] := rfl
theorem b40 : a40.body = c40 := rfl
def c41 : ACode := (.seq (.ops [i 4 (.mov (k (.int .u8 0)))]) (.seq (.ops [i 5 (.mov (t 0)), i 6 (.mov (t 1)), i 7 (.call .any (.func 51) [(t 5), (t 6)]), i 8 (.conv .u64 (t 7)), i 9 (.bin .mul (t 8) (k (.int .u64 11400714819323198485))), i 10 (.bin .shr (t 9) (k (.int .u64 56))), i 11 (.conv .u8 (t 10)), i 4 (.mov (t 11))]) .ret))
def a41 : AFunc := ⟨12, [(.tmp 4)], c41⟩
theorem n41 : a41.ntmps = 12 := id rfl
theorem r41 : a41.results = [(.tmp 4)] := rfl
theorem b41 : a41.body = c41 := rfl
def c42 : ACode := (.seq (.ops [i 2 (.mov (k (.bool false)))]) (.seq (.ops [i 3 (.mov (t 0)), i 4 (.eqv false .ptr (t 3) (k (.pointer none))), i 5 (.mov (t 4)), ⟨(some 6), (some (5, false)), (.mov (t 0)), none, []⟩, ⟨(some 7), (some (5, false)), (.nilCheck (t 6)), none, []⟩, ⟨(some 8), (some (5, false)), (.fieldAddr 0 (t 7)), none, []⟩, ⟨(some 9), (some (5, false)), (.load1 (t 8)), none, []⟩, ⟨(some 10), (some (5, false)), (.eqv false .ptr (t 9) (k (.pointer none))), none, []⟩, i 11 (.pick (t 5) (k (.bool true)) (t 10)), i 2 (.mov (t 11))]) .ret))
def a42 : AFunc := ⟨12, [(.tmp 2)], c42⟩
theorem n42 : a42.ntmps = 12 := id rfl
theorem r42 : a42.results = [(.tmp 2)] := rfl
theorem b42 : a42.body = c42 := rfl
def c43 : ACode := (.seq (.ops [i 2 (.mov (k (.int .i64 0)))]) (.seq (.ops [i 3 (.mov (t 0)), i 4 (.lenSlice (t 3)), i 5 (.bin .add (t 4) (k (.int .i64 18))), i 6 (.bin .sub (t 5) (k (.int .i64 1))), i 7 (.bin .quo (t 6) (k (.int .i64 18))), i 8 (.minmax true [(k (.int .i64 1)), (t 7)]), i 2 (.mov (t 8))]) .ret))
def a43 : AFunc := ⟨9, [(.tmp 2)], c43⟩
theorem n43 : a43.ntmps = 9 := id rfl
theorem r43 : a43.results = [(.tmp 2)] := rfl
theorem b43 : a43.body = c43 := rfl
def c44 : ACode := (.seq (.ops [i 2 (.mov (k (.int .i64 0)))]) (.seq (.ops [i 3 (.mov (t 0)), i 4 (.nilCheck (t 3)), i 5 (.fieldAddr 0 (t 4)), i 6 (.load1 (t 5)), i 7 (.lenSlice (t 6)), i 8 (.bin .quo (t 7) (k (.int .i64 2))), i 2 (.mov (t 8))]) .ret))
def a44 : AFunc := ⟨9, [(.tmp 2)], c44⟩
theorem n44 : a44.ntmps = 9 := id rfl
theorem r44 : a44.results = [(.tmp 2)] := rfl
theorem b44 : a44.body = c44 := rfl
def ga45_1 : ACode := (.ops [i 4 (.alloc [(.int .u8 0), (.int .u8 0), (.int .u8 0), (.int .u8 0), (.int .u8 0), (.int .u8 0), (.int .u8 0), (.int .u8 0), (.int .u8 0), (.int .u8 0), (.int .u8 0), (.int .u8 0), (.int .u8 0), (.int .u8 0), (.int .u8 0), (.int .u8 0), (.int .u8 0), (.int .u8 0), (.int .u8 0), (.int .u8 0), (.int .u8 0), (.int .u8 0), (.int .u8 0), (.int .u8 0), (.int .u8 0), (.int .u8 0), (.int .u8 0), (.int .u8 0), (.int .u8 0), (.int .u8 0), (.int .u8 0), (.int .u8 0)]), ⟨none, none, (.store 32 (t 4) (t 7)), none, []⟩])
def gb45_1 : ACode := (.block 1 (.seq (.ops [i 8 (.load1 (t 2)), i 9 (.nilCheck (t 8)), i 10 (.fieldAddr 2 (t 9)), i 11 (.load1 (t 10)), i 12 (.call .any (.func 53) [(t 4), (k (.int .i64 0)), (t 11)])]) (.seq (.ops [i 13 (.load1 (t 2)), i 14 (.nilCheck (t 13)), i 15 (.fieldAddr 3 (t 14)), i 16 (.load1 (t 15)), i 17 (.call .any (.func 53) [(t 4), (k (.int .i64 4)), (t 16)])]) (.seq (.ops [i 18 (.load1 (t 2)), i 19 (.nilCheck (t 18)), i 20 (.fieldAddr 4 (t 19)), i 21 (.load1 (t 20)), i 22 (.call .any (.func 53) [(t 4), (k (.int .i64 8)), (t 21)])]) (.seq (.drawn 2 [⟨(some 27), none, (.load1 (t 2)), none, [0, 1]⟩, i 28 (.nilCheck (t 27)), i 29 (.fieldAddr 0 (t 28)), ⟨(some 30), none, (.load1 (t 29)), none, [0, 1]⟩, i 31 (.nilCheck (t 30)), i 32 (.fieldAddr 1 (t 31)), ⟨(some 33), none, (.load1 (t 32)), none, [0, 1]⟩, ⟨(some 34), none, (.load1 (t 2)), none, [0, 1]⟩, i 35 (.nilCheck (t 34)), i 36 (.fieldAddr 1 (t 35)), ⟨(some 37), none, (.load1 (t 36)), none, [0, 1]⟩, ⟨(some 38), none, (.load1 (t 2)), none, [0, 1]⟩, i 39 (.nilCheck (t 38)), i 40 (.fieldAddr 0 (t 39)), ⟨(some 41), none, (.load1 (t 40)), none, [0, 1]⟩, ⟨(some 42), none, (.call .pure (.func 44) [(t 41)]), none, [0, 1]⟩, i 43 (.bin .mul (t 37) (t 42)), ⟨(some 44), none, (.load1 (t 2)), none, [0, 1]⟩, i 45 (.nilCheck (t 44)), i 46 (.fieldAddr 4 (t 45)), ⟨(some 47), none, (.load1 (t 46)), none, [0, 1]⟩, i 48 (.bin .add (t 43) (t 47)), ⟨(some 49), none, (.loadN 32 (t 4)), none, [0, 1]⟩, i 50 (.build [(.int .i64 0), (.int .u8 0), (.int .u8 0), (.int .u8 0), (.int .u8 0), (.int .u8 0), (.int .u8 0), (.int .u8 0), (.int .u8 0), (.int .u8 0), (.int .u8 0), (.int .u8 0), (.int .u8 0), (.int .u8 0), (.int .u8 0), (.int .u8 0), (.int .u8 0), (.int .u8 0), (.int .u8 0), (.int .u8 0), (.int .u8 0), (.int .u8 0), (.int .u8 0), (.int .u8 0), (.int .u8 0), (.int .u8 0), (.int .u8 0), (.int .u8 0), (.int .u8 0), (.int .u8 0), (.int .u8 0), (.int .u8 0), (.int .u8 0)] [(0, (1, (t 48))), (1, (32, (t 49)))]), ⟨(some 51), none, (.buildSlice 1 [(.int .i64 0), (.int .u8 0), (.int .u8 0), (.int .u8 0), (.int .u8 0), (.int .u8 0), (.int .u8 0), (.int .u8 0), (.int .u8 0), (.int .u8 0), (.int .u8 0), (.int .u8 0), (.int .u8 0), (.int .u8 0), (.int .u8 0), (.int .u8 0), (.int .u8 0), (.int .u8 0), (.int .u8 0), (.int .u8 0), (.int .u8 0), (.int .u8 0), (.int .u8 0), (.int .u8 0), (.int .u8 0), (.int .u8 0), (.int .u8 0), (.int .u8 0), (.int .u8 0), (.int .u8 0), (.int .u8 0), (.int .u8 0), (.int .u8 0)] [(0, (33, (t 50)))]), (some 0), []⟩, ⟨(some 52), none, (.appendL 33 40 false (t 33) (t 51)), (some 1), []⟩, ⟨(some 23), none, (.load1 (t 2)), none, [0, 1]⟩, i 24 (.nilCheck (t 23)), i 25 (.fieldAddr 0 (t 24)), ⟨(some 26), none, (.load1 (t 25)), none, [0, 1]⟩, i 53 (.nilCheck (t 26)), i 54 (.fieldAddr 1 (t 53)), ⟨none, none, (.store 1 (t 54) (t 52)), none, []⟩]) (.ops [i 55 (.load1 (t 2)), i 56 (.nilCheck (t 55)), i 57 (.fieldAddr 4 (t 56)), i 58 (.load1 (t 57)), i 59 (.bin .add (t 58) (k (.int .i64 1))), i 60 (.nilCheck (t 55)), i 61 (.fieldAddr 4 (t 60)), ⟨none, none, (.store 1 (t 61) (t 59)), none, []⟩]))))))
def c45 : ACode := (.seq (.seq (.ops [i 2 (.box (t 0))]) (.seq (.ops [i 5 (.mov (t 1)), i 6 (.call .any (.func 52) [(t 5)])]) (.block 0 (.rangeF (t 6) [7] ga45_1 gb45_1)))) .retM)
def a45 : AFunc := ⟨62, [], c45⟩
theorem n45 : a45.ntmps = 62 := id rfl
theorem r45 : a45.results = [] := rfl
theorem b45 : a45.body = c45 := rfl
def l46_1 : ACode := (.seq (.ops [i 14 (.bin .lss (t 13) (t 12))]) (.seq (.cond (t 14) .skip (.exit 0)) (.seq (.block 1 (.seq (.ops [i 15 (.mov (t 13)), i 8 (.mov (t 15))]) (.seq (.ops [i 16 (.mov (t 0)), i 17 (.mov (t 8)), i 18 (.idxAddrS 32 (t 16) (t 17)), i 9 (.mov (t 18))]) (.seq (.ops [i 19 (.mov (t 9)), i 20 (.call .any (.func 54) [(t 19)]), i 21 (.bin .and (t 20) (k (.int .u8 1))), i 22 (.bin .neq (t 21) (k (.int .u8 0))), i 10 (.mov (t 22))]) (.seq (.seq (.ops [i 23 (.mov (t 8)), i 24 (.bin .eql (t 23) (k (.int .i64 0)))]) (.cond (t 24) (.ops [i 25 (.mov (t 9)), i 26 (.call .any (.func 55) [(t 25), (k (.int .i64 0))]), i 3 (.mov (t 26))]) .skip)) (.seq (.seq (.ops [i 27 (.mov (t 9)), i 28 (.mov (t 8)), i 29 (.call .any (.func 56) [(t 27), (t 28)]), i 30 (.un .not (t 29)), i 31 (.mov (t 30)), ⟨(some 32), (some (31, false)), (.mov (t 9)), none, []⟩, ⟨(some 33), (some (31, false)), (.call .any (.func 55) [(t 32), (k (.int .i64 0))]), none, []⟩, ⟨(some 34), (some (31, false)), (.mov (t 3)), none, []⟩, ⟨(some 35), (some (31, false)), (.bin .neq (t 33) (t 34)), none, []⟩, i 36 (.pick (t 31) (k (.bool true)) (t 35)), i 37 (.mov (t 36)), ⟨(some 38), (some (37, false)), (.mov (t 10)), none, []⟩, ⟨(some 39), (some (37, false)), (.mov (t 6)), none, []⟩, ⟨(some 40), (some (37, false)), (.eqv false .bool (t 38) (t 39)), none, []⟩, i 41 (.pick (t 37) (k (.bool true)) (t 40)), i 42 (.mov (t 41)), ⟨(some 43), (some (42, false)), (.mov (t 9)), none, []⟩, ⟨(some 44), (some (42, false)), (.call .any (.func 55) [(t 43), (k (.int .i64 4))]), none, []⟩, ⟨(some 45), (some (42, false)), (.mov (t 7)), none, []⟩, ⟨(some 46), (some (42, false)), (.bin .lss (t 44) (t 45)), none, []⟩, i 47 (.pick (t 42) (k (.bool true)) (t 46))]) (.cond (t 47) (.exit 0) .skip)) (.seq (.seq (.ops [i 48 (.mov (t 6)), i 49 (.mov (t 48)), ⟨(some 50), (some (49, true)), (.mov (t 9)), none, []⟩, ⟨(some 51), (some (49, true)), (.call .any (.func 55) [(t 50), (k (.int .i64 4))]), none, []⟩, ⟨(some 52), (some (49, true)), (.mov (t 7)), none, []⟩, ⟨(some 53), (some (49, true)), (.bin .neq (t 51) (t 52)), none, []⟩, i 54 (.pick (t 49) (t 53) (k (.bool false)))]) (.cond (t 54) (.exit 0) .skip)) (.seq (.ops [i 55 (.mov (t 9)), i 56 (.call .any (.func 55) [(t 55), (k (.int .i64 4))]), i 7 (.mov (t 56))]) (.seq (.drawn 1 [i 57 (.mov (t 5)), i 58 (.mov (t 9)), i 59 (.nilCheck (t 58)), i 60 (.mov (t 9)), i 61 (.nilCheck (t 60)), i 62 (.idxAddrA 32 1 (t 61) (k (.int .i64 13))), ⟨(some 63), none, (.load1 (t 62)), none, [0]⟩, i 64 (.conv .i64 (t 63)), i 65 (.bin .add (k (.int .i64 14)) (t 64)), i 66 (.sliceA 32 1 (t 59) (some (k (.int .i64 14))) (some (t 65)) none), ⟨(some 67), none, (.append 1 1 false (t 57) (t 66)), (some 0), []⟩, i 5 (.mov (t 67))]) (.seq (.ops [i 68 (.mov (t 9)), i 69 (.call .any (.func 54) [(t 68)]), i 70 (.bin .and (t 69) (k (.int .u8 2))), i 71 (.bin .eql (t 70) (k (.int .u8 0))), i 6 (.mov (t 71))]) (.seq (.ops [i 72 (.mov (t 6)), i 73 (.un .not (t 72))]) (.cond (t 73) (.seq (.ops [i 74 (.mov (t 2)), i 75 (.mov (t 5)), i 76 (.buildSlice 1 [(.slice none 0 0)] [(0, (1, (t 75)))]), i 77 (.append 1 24 false (t 74) (t 76)), i 2 (.mov (t 77))]) (.ops [i 78 (.mov (t 8)), i 79 (.bin .add (t 78) (k (.int .i64 1))), i 5 (.mov (k (.slice none 0 0))), i 4 (.mov (t 79))])) .skip)))))))))))) (.ops [i 80 (.bin .add (t 13) (k (.int .i64 1))), i 13 (.mov (t 80))]))))
def c46 : ACode := (.seq (.ops [i 2 (.mov (k (.slice none 0 0))), i 3 (.mov (k (.int .i64 0))), i 4 (.mov (k (.int .i64 0)))]) (.seq (.ops [i 5 (.mov (k (.slice none 0 0)))]) (.seq (.ops [i 6 (.mov (k (.bool false))), i 7 (.mov (k (.int .i64 0)))]) (.seq (.seq (.ops [i 11 (.mov (t 0)), i 12 (.lenSlice (t 11)), i 13 (.mov (k (.int .i64 0)))]) (.block 0 (.loop l46_1))) (.seq (.ops [i 81 (.mov (t 2)), i 82 (.mov (t 3)), i 83 (.mov (t 4)), i 2 (.mov (t 81)), i 3 (.mov (t 82)), i 4 (.mov (t 83))]) .ret)))))
def a46 : AFunc := ⟨84, [(.tmp 2), (.tmp 3), (.tmp 4)], c46⟩
theorem n46 : a46.ntmps = 84 := id rfl
theorem r46 : a46.results = [(.tmp 2), (.tmp 3), (.tmp 4)] := rfl
theorem b46 : a46.body = c46 := rfl
def l47_1 : ACode := (.seq (.ops [i 18 (.bin .lss (t 17) (t 16))]) (.seq (.cond (t 18) .skip (.exit 0)) (.seq (.block 1 (.seq (.ops [i 19 (.idxAddrS 33 (t 15) (t 17)), i 20 (.loadN 33 (t 19)), i 5 (.alloc [(.int .i64 0), (.int .u8 0), (.int .u8 0), (.int .u8 0), (.int .u8 0), (.int .u8 0), (.int .u8 0), (.int .u8 0), (.int .u8 0), (.int .u8 0), (.int .u8 0), (.int .u8 0), (.int .u8 0), (.int .u8 0), (.int .u8 0), (.int .u8 0), (.int .u8 0), (.int .u8 0), (.int .u8 0), (.int .u8 0), (.int .u8 0), (.int .u8 0), (.int .u8 0), (.int .u8 0), (.int .u8 0), (.int .u8 0), (.int .u8 0), (.int .u8 0), (.int .u8 0), (.int .u8 0), (.int .u8 0), (.int .u8 0), (.int .u8 0)]), ⟨none, none, (.store 33 (t 5) (t 20)), none, []⟩]) (.seq (.ops [i 21 (.mov (t 0)), i 22 (.fieldAddr 0 (t 5)), i 23 (.load1 (t 22)), i 24 (.call .any (.func 39) [(t 21), (t 23)])]) (.cond (t 24) (.ops [i 25 (.mov (t 3)), i 26 (.fieldAddr 0 (t 5)), i 27 (.load1 (t 26)), i 28 (.fieldAddr 1 (t 5)), i 29 (.loadN 32 (t 28)), i 30 (.idxAddrS 32 (t 25) (t 27)), ⟨none, none, (.store 32 (t 30) (t 29)), none, []⟩]) .skip)))) (.ops [i 31 (.bin .add (t 17) (k (.int .i64 1))), i 17 (.mov (t 31))]))))
def c47 : ACode := (.seq (.ops [i 2 (.alloc [(.slice none 0 0), (.slice none 0 0)])]) (.seq (.ops [i 7 (.mov (t 0)), i 8 (.nilCheck (t 7)), i 9 (.fieldAddr 0 (t 8)), i 10 (.load1 (t 9)), i 11 (.call .any (.func 57) [(t 10)]), i 3 (.mov (t 11))]) (.seq (.seq (.ops [i 12 (.mov (t 0)), i 13 (.nilCheck (t 12)), i 14 (.fieldAddr 1 (t 13)), i 15 (.load1 (t 14)), i 16 (.lenSlice (t 15)), i 17 (.mov (k (.int .i64 0)))]) (.block 0 (.loop l47_1))) (.seq (.ops [i 32 (.mov (t 0)), i 33 (.call .any (.func 44) [(t 32)]), i 6 (.mov (t 33))]) (.seq (.drawn 0 [i 34 (.mov (t 3)), i 35 (.mov (t 6)), i 36 (.sliceS 32 (t 34) none (some (t 35)) none), i 37 (.mov (t 3)), i 38 (.mov (t 6)), i 39 (.mov (t 6)), i 40 (.bin .mul (k (.int .i64 2)) (t 39)), i 41 (.sliceS 32 (t 37) (some (t 38)) (some (t 40)) none), i 42 (.build [(.slice none 0 0), (.slice none 0 0)] [(0, (1, (t 36))), (1, (1, (t 41)))]), ⟨none, none, (.store 2 (t 2) (t 42)), none, []⟩]) .ret)))))
def a47 : AFunc := ⟨43, [(.cellN 2 2)], c47⟩
theorem n47 : a47.ntmps = 43 := id rfl
theorem r47 : a47.results = [(.cellN 2 2)] := rfl
theorem b47 : a47.body = c47 := rfl
def c48 : ACode := (.seq (.ops [i 1 (.box (t 0)), i 2 (.mov (k (.bool false)))]) (.seq (.ops [i 3 (.load1 (t 1)), i 4 (.nilCheck (t 3)), i 5 (.fieldAddr 0 (t 4)), i 6 (.load1 (t 5)), i 7 (.lenSlice (t 6)), i 8 (.bin .geq (t 7) (k (.int .i64 4))), i 9 (.mov (t 8)), ⟨(some 10), (some (9, true)), (.load1 (t 1)), none, []⟩, ⟨(some 11), (some (9, true)), (.nilCheck (t 10)), none, []⟩, ⟨(some 12), (some (9, true)), (.fieldAddr 0 (t 11)), none, []⟩, ⟨(some 13), (some (9, true)), (.load1 (t 12)), none, []⟩, ⟨(some 14), (some (9, true)), (.lenSlice (t 13)), none, []⟩, ⟨(some 15), (some (9, true)), (.bin .leq (t 14) (k (.int .i64 32768))), none, []⟩, i 16 (.pick (t 9) (t 15) (k (.bool false))), i 17 (.mov (t 16)), ⟨(some 18), (some (17, true)), (.load1 (t 1)), none, []⟩, ⟨(some 19), (some (17, true)), (.nilCheck (t 18)), none, []⟩, ⟨(some 20), (some (17, true)), (.fieldAddr 1 (t 19)), none, []⟩, ⟨(some 21), (some (17, true)), (.load1 (t 20)), none, []⟩, ⟨(some 22), (some (17, true)), (.makeFunc 59 [] [(t 1)]), none, []⟩, ⟨(some 23), (some (17, true)), (.call .any (.func 58) [(t 21), (t 22)]), none, []⟩, ⟨(some 24), (some (17, true)), (.un .not (t 23)), none, []⟩, i 25 (.pick (t 17) (t 24) (k (.bool false))), i 2 (.mov (t 25))]) .ret))
def a48 : AFunc := ⟨26, [(.tmp 2)], c48⟩
theorem n48 : a48.ntmps = 26 := id rfl
theorem r48 : a48.results = [(.tmp 2)] := rfl
theorem b48 : a48.body = c48 := rfl
def l49_1 : ACode := (.seq (.ops [i 15 (.bin .lss (t 14) (t 13))]) (.seq (.cond (t 15) .skip (.exit 2)) (.seq (.block 3 (.seq (.ops [i 16 (.mov (t 14)), i 6 (.mov (t 16))]) (.seq (.ops [i 17 (.mov (t 5)), i 18 (.mov (t 6)), i 19 (.idxAddrS 32 (t 17) (t 18)), i 7 (.mov (t 19))]) (.seq (.ops [i 20 (.mov (t 7)), i 21 (.mov (t 6)), i 22 (.call .any (.func 56) [(t 20), (t 21)])]) (.cond (t 22) (.seq (.ops [i 23 (.mov (t 2)), i 24 (.mov (t 7)), i 25 (.call .any (.func 55) [(t 24), (k (.int .i64 0))]), i 26 (.minmax true [(t 23), (t 25)]), i 2 (.mov (t 26))]) (.ops [i 27 (.mov (t 3)), i 28 (.mov (t 7)), i 29 (.call .any (.func 55) [(t 28), (k (.int .i64 4))]), i 30 (.minmax true [(t 27), (t 29)]), i 3 (.mov (t 30))])) .skip))))) (.ops [i 31 (.bin .add (t 14) (k (.int .i64 1))), i 14 (.mov (t 31))]))))
def l49_2 : ACode := (.seq (.ops [i 10 (.bin .lss (t 9) (k (.int .i64 2)))]) (.seq (.cond (t 10) .skip (.exit 0)) (.seq (.block 1 (.seq (.ops [i 11 (.idxA 2 1 false (t 8) (t 9)), i 5 (.mov (t 11))]) (.seq (.ops [i 12 (.mov (t 5)), i 13 (.lenSlice (t 12)), i 14 (.mov (k (.int .i64 0)))]) (.block 2 (.loop l49_1))))) (.ops [i 32 (.bin .add (t 9) (k (.int .i64 1))), i 9 (.mov (t 32))]))))
def c49 : ACode := (.seq (.ops [i 1 (.box (t 0)), i 2 (.mov (k (.int .i64 0))), i 3 (.mov (k (.int .i64 0)))]) (.seq (.seq (.ops [i 8 (.loadN 2 (t 1)), i 9 (.mov (k (.int .i64 0)))]) (.block 0 (.loop l49_2))) (.seq (.ops [i 33 (.mov (t 2)), i 34 (.mov (t 3)), i 2 (.mov (t 33)), i 3 (.mov (t 34))]) .ret)))
def a49 : AFunc := ⟨35, [(.tmp 2), (.tmp 3)], c49⟩
theorem n49 : a49.ntmps = 35 := id rfl
theorem r49 : a49.results = [(.tmp 2), (.tmp 3)] := rfl
theorem b49 : a49.body = c49 := rfl
def c50 : ACode := (.seq (.ops [i 2 (.mov (k (.slice none 0 0)))]) (.seq (.ops [i 3 (.mov (t 0)), i 4 (.mov (t 0)), i 5 (.lenSlice (t 4)), i 6 (.mov (t 0)), i 7 (.lenSlice (t 6)), i 8 (.sliceS 33 (t 3) none (some (t 5)) (some (t 7))), i 2 (.mov (t 8))]) .ret))
def a50 : AFunc := ⟨9, [(.tmp 2)], c50⟩
theorem n50 : a50.ntmps = 9 := id rfl
theorem r50 : a50.results = [(.tmp 2)] := rfl
theorem b50 : a50.body = c50 := rfl
def c51 : ACode := (.seq (.ops [i 4 (.mov (k (.int .i64 0)))]) (.seq (.ops [i 5 (.mov (t 0)), i 6 (.bin .add (t 5) (k (.int .i64 7))), i 7 (.bin .mul (k (.int .i64 1000003)) (t 6)), i 8 (.mov (t 1)), i 9 (.bin .add (t 7) (t 8)), i 4 (.mov (t 9))]) .ret))
def a51 : AFunc := ⟨10, [(.tmp 4)], c51⟩
theorem n51 : a51.ntmps = 10 := id rfl
theorem r51 : a51.results = [(.tmp 4)] := rfl
theorem b51 : a51.body = c51 := rfl
def c52 : ACode := (.seq (.ops [i 1 (.box (t 0)), i 2 (.mov (k .nilFunc))]) (.seq (.ops [i 3 (.makeFunc 60 [] [(t 1)]), i 2 (.mov (t 3))]) .ret))
def a52 : AFunc := ⟨4, [(.tmp 2)], c52⟩
theorem n52 : a52.ntmps = 4 := id rfl
theorem r52 : a52.results = [(.tmp 2)] := rfl
theorem b52 : a52.body = c52 := rfl
def l53_1 : ACode := (.seq (.ops [i 8 (.bin .lss (t 7) (k (.int .i64 4)))]) (.seq (.cond (t 8) .skip (.exit 0)) (.seq (.block 1 (.seq (.ops [i 9 (.mov (t 7)), i 6 (.mov (t 9))]) (.drawn 0 [i 10 (.mov (t 0)), i 11 (.mov (t 1)), i 12 (.mov (t 6)), i 13 (.bin .add (t 11) (t 12)), i 14 (.mov (t 2)), i 15 (.mov (t 6)), i 16 (.bin .mul (k (.int .i64 8)) (t 15)), i 17 (.bin .sub (k (.int .i64 24)) (t 16)), i 18 (.bin .shr (t 14) (t 17)), i 19 (.conv .u8 (t 18)), i 20 (.nilCheck (t 10)), i 21 (.idxAddrA 32 1 (t 20) (t 13)), ⟨none, none, (.store 1 (t 21) (t 19)), none, []⟩]))) (.ops [i 22 (.bin .add (t 7) (k (.int .i64 1))), i 7 (.mov (t 22))]))))
def c53 : ACode := (.seq (.ops [i 7 (.mov (k (.int .i64 0)))]) (.block 0 (.loop l53_1)))
def a53 : AFunc := ⟨23, [], c53⟩
theorem n53 : a53.ntmps = 23 := id rfl
theorem r53 : a53.results = [] := rfl
theorem b53 : a53.body = c53 := rfl
def c54 : ACode := (.seq (.ops [i 2 (.mov (k (.int .u8 0)))]) (.seq (.ops [i 3 (.mov (t 0)), i 4 (.nilCheck (t 3)), i 5 (.idxAddrA 32 1 (t 4) (k (.int .i64 12))), i 6 (.load1 (t 5)), i 2 (.mov (t 6))]) .ret))
def a54 : AFunc := ⟨7, [(.tmp 2)], c54⟩
theorem n54 : a54.ntmps = 7 := id rfl
theorem r54 : a54.results = [(.tmp 2)] := rfl
theorem b54 : a54.body = c54 := rfl
def l55_1 : ACode := (.seq (.ops [i 16 (.bin .lss (t 15) (t 14))]) (.seq (.cond (t 16) .skip (.exit 0)) (.seq (.block 1 (.seq (.ops [i 17 (.idxAddrS 1 (t 13) (t 15)), i 18 (.load1 (t 17)), i 7 (.mov (t 18))]) (.ops [i 19 (.mov (t 5)), i 20 (.bin .shl (t 19) (k (.int .u64 8))), i 21 (.mov (t 7)), i 22 (.conv .i64 (t 21)), i 23 (.bin .or (t 20) (t 22)), i 5 (.mov (t 23))]))) (.ops [i 24 (.bin .add (t 15) (k (.int .i64 1))), i 15 (.mov (t 24))]))))
def c55 : ACode := (.seq (.ops [i 4 (.mov (k (.int .i64 0)))]) (.seq (.ops [i 5 (.mov (k (.int .i64 0)))]) (.seq (.seq (.ops [i 8 (.mov (t 0)), i 9 (.nilCheck (t 8)), i 10 (.mov (t 1)), i 11 (.mov (t 1)), i 12 (.bin .add (t 11) (k (.int .i64 4))), i 13 (.sliceA 32 1 (t 9) (some (t 10)) (some (t 12)) none), i 14 (.lenSlice (t 13)), i 15 (.mov (k (.int .i64 0)))]) (.block 0 (.loop l55_1))) (.seq (.ops [i 25 (.mov (t 5)), i 4 (.mov (t 25))]) .ret))))
def a55 : AFunc := ⟨26, [(.tmp 4)], c55⟩
theorem n55 : a55.ntmps = 26 := id rfl
theorem r55 : a55.results = [(.tmp 4)] := rfl
theorem b55 : a55.body = c55 := rfl
def c56 : ACode := (.seq (.ops [i 4 (.mov (k (.bool false)))]) (.seq (.drawn 0 [i 9 (.mov (t 0)), i 10 (.call .pure (.func 55) [(t 9), (k (.int .i64 0))]), i 11 (.mov (t 0)), i 12 (.call .pure (.func 55) [(t 11), (k (.int .i64 4))]), i 13 (.mov (t 0)), i 14 (.nilCheck (t 13)), i 15 (.idxAddrA 32 1 (t 14) (k (.int .i64 13))), i 16 (.load1 (t 15)), i 17 (.conv .i64 (t 16)), i 5 (.mov (t 10)), i 6 (.mov (t 12)), i 7 (.mov (t 17))]) (.seq (.seq (.ops [i 18 (.mov (t 5)), i 19 (.bin .lss (t 18) (k (.int .i64 1))), i 20 (.mov (t 19)), ⟨(some 21), (some (20, false)), (.mov (t 5)), none, []⟩, ⟨(some 22), (some (20, false)), (.bin .gtr (t 21) (k (.int .i64 1073741824))), none, []⟩, i 23 (.pick (t 20) (k (.bool true)) (t 22)), i 24 (.mov (t 23)), ⟨(some 25), (some (24, false)), (.mov (t 6)), none, []⟩, ⟨(some 26), (some (24, false)), (.bin .lss (t 25) (k (.int .i64 1))), none, []⟩, i 27 (.pick (t 24) (k (.bool true)) (t 26)), i 28 (.mov (t 27)), ⟨(some 29), (some (28, false)), (.mov (t 6)), none, []⟩, ⟨(some 30), (some (28, false)), (.bin .gtr (t 29) (k (.int .i64 1073741824))), none, []⟩, i 31 (.pick (t 28) (k (.bool true)) (t 30)), i 32 (.mov (t 31)), ⟨(some 33), (some (32, false)), (.mov (t 0)), none, []⟩, ⟨(some 34), (some (32, false)), (.call .any (.func 55) [(t 33), (k (.int .i64 8))]), none, []⟩, ⟨(some 35), (some (32, false)), (.mov (t 1)), none, []⟩, ⟨(some 36), (some (32, false)), (.bin .neq (t 34) (t 35)), none, []⟩, i 37 (.pick (t 32) (k (.bool true)) (t 36))]) (.cond (t 37) (.seq (.ops [i 4 (.mov (k (.bool false)))]) .ret) .skip)) (.seq (.seq (.ops [i 38 (.mov (t 0)), i 39 (.call .any (.func 54) [(t 38)]), i 40 (.bin .gtr (t 39) (k (.int .u8 3))), i 41 (.mov (t 40)), ⟨(some 42), (some (41, false)), (.mov (t 7)), none, []⟩, ⟨(some 43), (some (41, false)), (.bin .gtr (t 42) (k (.int .i64 18))), none, []⟩, i 44 (.pick (t 41) (k (.bool true)) (t 43))]) (.cond (t 44) (.seq (.ops [i 4 (.mov (k (.bool false)))]) .ret) .skip)) (.seq (.seq (.ops [i 45 (.mov (t 0)), i 46 (.call .any (.func 54) [(t 45)]), i 47 (.bin .and (t 46) (k (.int .u8 2))), i 48 (.bin .eql (t 47) (k (.int .u8 0))), i 49 (.mov (t 48)), ⟨(some 50), (some (49, true)), (.mov (t 7)), none, []⟩, ⟨(some 51), (some (49, true)), (.bin .neq (t 50) (k (.int .i64 18))), none, []⟩, i 52 (.pick (t 49) (t 51) (k (.bool false)))]) (.cond (t 52) (.seq (.ops [i 4 (.mov (k (.bool false)))]) .ret) .skip)) (.seq (.ops [i 8 (.alloc [(.int .u8 0), (.int .u8 0), (.int .u8 0), (.int .u8 0), (.int .u8 0), (.int .u8 0), (.int .u8 0), (.int .u8 0), (.int .u8 0), (.int .u8 0), (.int .u8 0), (.int .u8 0), (.int .u8 0), (.int .u8 0), (.int .u8 0), (.int .u8 0), (.int .u8 0), (.int .u8 0)])]) (.seq (.drawn 0 [i 53 (.sliceA 18 1 (t 8) none none none), i 54 (.mov (t 0)), i 55 (.nilCheck (t 54)), i 56 (.mov (t 7)), i 57 (.bin .add (k (.int .i64 14)) (t 56)), i 58 (.sliceA 32 1 (t 55) (some (t 57)) none none), i 59 (.copy 1 (t 53) (t 58))]) (.seq (.ops [i 60 (.loadN 18 (t 8)), i 61 (.build [(.int .u8 0), (.int .u8 0), (.int .u8 0), (.int .u8 0), (.int .u8 0), (.int .u8 0), (.int .u8 0), (.int .u8 0), (.int .u8 0), (.int .u8 0), (.int .u8 0), (.int .u8 0), (.int .u8 0), (.int .u8 0), (.int .u8 0), (.int .u8 0), (.int .u8 0), (.int .u8 0)] []), i 62 (.eqv false (.agg [(.int .u8), (.int .u8), (.int .u8), (.int .u8), (.int .u8), (.int .u8), (.int .u8), (.int .u8), (.int .u8), (.int .u8), (.int .u8), (.int .u8), (.int .u8), (.int .u8), (.int .u8), (.int .u8), (.int .u8), (.int .u8)]) (t 60) (t 61)), i 4 (.mov (t 62))]) .ret))))))))
def a56 : AFunc := ⟨63, [(.tmp 4)], c56⟩
theorem n56 : a56.ntmps = 63 := id rfl
theorem r56 : a56.results = [(.tmp 4)] := rfl
theorem b56 : a56.body = c56 := rfl
def c57 : ACode := (.seq (.ops [i 2 (.mov (k (.slice none 0 0)))]) (.seq (.seq (.ops [i 3 (.mov (t 0)), i 4 (.eqv false .slice (t 3) (k (.slice none 0 0)))]) (.cond (t 4) (.seq (.ops [i 2 (.mov (k (.slice none 0 0)))]) .ret) .skip)) (.seq (.ops [i 5 (.buildSlice 0 [] []), i 6 (.mov (t 0)), i 7 (.append 32 32 false (t 5) (t 6)), i 2 (.mov (t 7))]) .ret)))
def a57 : AFunc := ⟨8, [(.tmp 2)], c57⟩
theorem n57 : a57.ntmps = 8 := id rfl
theorem r57 : a57.results = [(.tmp 2)] := rfl
theorem b57 : a57.body = c57 := rfl
def c58 : ACode := (.seq (.ops [i 4 (.mov (k (.bool false)))]) (.seq (.ops [i 5 (.mov (t 0)), i 6 (.mov (t 1)), i 7 (.call .any (.func 61) [(t 5), (t 6)]), i 8 (.bin .geq (t 7) (k (.int .i64 0))), i 4 (.mov (t 8))]) .ret))
def a58 : AFunc := ⟨9, [(.tmp 4)], c58⟩
theorem n58 : a58.ntmps = 9 := id rfl
theorem r58 : a58.results = [(.tmp 4)] := rfl
theorem b58 : a58.body = c58 := rfl
def c59 : ACode := (.seq (.ops [i 2 (.box (t 0)), i 3 (.mov (k (.bool false)))]) (.seq (.ops [i 4 (.load1 (t 1)), i 5 (.fieldAddr 0 (t 2)), i 6 (.load1 (t 5)), i 7 (.call .any (.func 39) [(t 4), (t 6)]), i 8 (.un .not (t 7)), i 3 (.mov (t 8))]) .ret))
def a59 : AFunc := ⟨9, [(.tmp 3)], c59⟩
theorem n59 : a59.ntmps = 9 := id rfl
theorem r59 : a59.results = [(.tmp 3)] := rfl
theorem b59 : a59.body = c59 := rfl
def l60_1 : ACode := (.block 1 (.seq (.ops [i 6 (.load1 (t 1)), i 7 (.lenSlice (t 6)), i 8 (.minmax false [(t 7), (k (.int .i64 18))]), i 4 (.mov (t 8))]) (.seq (.seq (.ops [i 9 (.mov (t 4)), i 10 (.load1 (t 1)), i 11 (.lenSlice (t 10)), i 12 (.bin .eql (t 9) (t 11))]) (.cond (t 12) (.ops [i 13 (.mov (t 3)), i 14 (.bin .or (t 13) (k (.int .u8 2))), i 3 (.mov (t 14))]) .skip)) (.seq (.ops [i 5 (.alloc [(.int .u8 0), (.int .u8 0), (.int .u8 0), (.int .u8 0), (.int .u8 0), (.int .u8 0), (.int .u8 0), (.int .u8 0), (.int .u8 0), (.int .u8 0), (.int .u8 0), (.int .u8 0), (.int .u8 0), (.int .u8 0), (.int .u8 0), (.int .u8 0), (.int .u8 0), (.int .u8 0), (.int .u8 0), (.int .u8 0), (.int .u8 0), (.int .u8 0), (.int .u8 0), (.int .u8 0), (.int .u8 0), (.int .u8 0), (.int .u8 0), (.int .u8 0), (.int .u8 0), (.int .u8 0), (.int .u8 0), (.int .u8 0)])]) (.seq (.ops [i 15 (.mov (t 3)), i 16 (.mov (t 4)), i 17 (.conv .u8 (t 16)), i 18 (.idxAddrA 32 1 (t 5) (k (.int .i64 12))), ⟨none, none, (.store 1 (t 18) (t 15)), none, []⟩, i 19 (.idxAddrA 32 1 (t 5) (k (.int .i64 13))), ⟨none, none, (.store 1 (t 19) (t 17)), none, []⟩]) (.seq (.drawn 0 [i 20 (.sliceA 32 1 (t 5) (some (k (.int .i64 14))) none none), i 21 (.load1 (t 1)), i 22 (.mov (t 4)), i 23 (.sliceS 1 (t 21) none (some (t 22)) none), i 24 (.copy 1 (t 20) (t 23))]) (.seq (.seq (.ops [i 25 (.mov (t 0)), i 26 (.loadN 32 (t 5)), i 27 (.call .any (t 25) [(t 26)]), i 28 (.un .not (t 27)), i 29 (.mov (t 28)), ⟨(some 30), (some (29, false)), (.mov (t 4)), none, []⟩, ⟨(some 31), (some (29, false)), (.load1 (t 1)), none, []⟩, ⟨(some 32), (some (29, false)), (.lenSlice (t 31)), none, []⟩, ⟨(some 33), (some (29, false)), (.bin .eql (t 30) (t 32)), none, []⟩, i 34 (.pick (t 29) (k (.bool true)) (t 33))]) (.cond (t 34) .ret .skip)) (.ops [i 35 (.load1 (t 1)), i 36 (.mov (t 4)), i 37 (.sliceS 1 (t 35) (some (t 36)) none none), ⟨none, none, (.store 1 (t 1) (t 37)), none, []⟩, i 3 (.mov (k (.int .u8 0)))]))))))))
def c60 : ACode := (.seq (.ops [i 3 (.mov (k (.int .u8 1)))]) (.block 0 (.loop l60_1)))
def a60 : AFunc := ⟨38, [], c60⟩
theorem n60 : a60.ntmps = 38 := id rfl
theorem r60 : a60.results = [] := rfl
theorem b60 : a60.body = c60 := rfl
def l61_1 : ACode := (.seq (.ops [i 9 (.bin .lss (t 8) (t 7))]) (.seq (.cond (t 9) .skip (.exit 0)) (.seq (.block 1 (.seq (.ops [i 10 (.mov (t 8)), i 5 (.mov (t 10))]) (.seq (.ops [i 11 (.mov (t 1)), i 12 (.mov (t 0)), i 13 (.mov (t 5)), i 14 (.idxAddrS 33 (t 12) (t 13)), i 15 (.loadN 33 (t 14)), i 16 (.call .any (t 11) [(t 15)])]) (.cond (t 16) (.seq (.ops [i 17 (.mov (t 5)), i 4 (.mov (t 17))]) .ret) .skip)))) (.ops [i 18 (.bin .add (t 8) (k (.int .i64 1))), i 8 (.mov (t 18))]))))
def c61 : ACode := (.seq (.ops [i 4 (.mov (k (.int .i64 0)))]) (.seq (.seq (.ops [i 6 (.mov (t 0)), i 7 (.lenSlice (t 6)), i 8 (.mov (k (.int .i64 0)))]) (.block 0 (.loop l61_1))) (.seq (.ops [i 4 (.mov (k (.int .i64 (-1))))]) .ret)))
def a61 : AFunc := ⟨19, [(.tmp 4)], c61⟩
theorem n61 : a61.ntmps = 19 := id rfl
theorem r61 : a61.results = [(.tmp 4)] := rfl
theorem b61 : a61.body = c61 := rfl

def table : List (FuncId × AFunc) := [(3, a3), (4, a4), (5, a5), (6, a6), (7, a7), (8, a8), (9, a9), (10, a10), (11, a11), (12, a12), (13, a13), (14, a14), (15, a15), (16, a16), (17, a17), (18, a18), (19, a19), (20, a20), (21, a21), (22, a22), (23, a23), (24, a24), (25, a25), (26, a26), (27, a27), (28, a28), (29, a29), (30, a30), (31, a31), (32, a32), (33, a33), (34, a34), (35, a35), (36, a36), (37, a37), (38, a38), (39, a39), (40, a40), (41, a41), (42, a42), (43, a43), (44, a44), (45, a45), (46, a46), (47, a47), (48, a48), (49, a49), (50, a50), (51, a51), (52, a52), (53, a53), (54, a54), (55, a55), (56, a56), (57, a57), (58, a58), (59, a59), (60, a60), (61, a61)]
def tr (g : FuncId) : Option AFunc := table.lookup g
theorem e3 : tr 3 = some a3 := rfl
theorem e4 : tr 4 = some a4 := rfl
theorem e5 : tr 5 = some a5 := rfl
theorem e6 : tr 6 = some a6 := rfl
theorem e7 : tr 7 = some a7 := rfl
theorem e8 : tr 8 = some a8 := rfl
theorem e9 : tr 9 = some a9 := rfl
theorem e10 : tr 10 = some a10 := rfl
theorem e11 : tr 11 = some a11 := rfl
theorem e12 : tr 12 = some a12 := rfl
theorem e13 : tr 13 = some a13 := rfl
theorem e14 : tr 14 = some a14 := rfl
theorem e15 : tr 15 = some a15 := rfl
theorem e16 : tr 16 = some a16 := rfl
theorem e17 : tr 17 = some a17 := rfl
theorem e18 : tr 18 = some a18 := rfl
theorem e19 : tr 19 = some a19 := rfl
theorem e20 : tr 20 = some a20 := rfl
theorem e21 : tr 21 = some a21 := rfl
theorem e22 : tr 22 = some a22 := rfl
theorem e23 : tr 23 = some a23 := rfl
theorem e24 : tr 24 = some a24 := rfl
theorem e25 : tr 25 = some a25 := rfl
theorem e26 : tr 26 = some a26 := rfl
theorem e27 : tr 27 = some a27 := rfl
theorem e28 : tr 28 = some a28 := rfl
theorem e29 : tr 29 = some a29 := rfl
theorem e30 : tr 30 = some a30 := rfl
theorem e31 : tr 31 = some a31 := rfl
theorem e32 : tr 32 = some a32 := rfl
theorem e33 : tr 33 = some a33 := rfl
theorem e34 : tr 34 = some a34 := rfl
theorem e35 : tr 35 = some a35 := rfl
theorem e36 : tr 36 = some a36 := rfl
theorem e37 : tr 37 = some a37 := rfl
theorem e38 : tr 38 = some a38 := rfl
theorem e39 : tr 39 = some a39 := rfl
theorem e40 : tr 40 = some a40 := rfl
theorem e41 : tr 41 = some a41 := rfl
theorem e42 : tr 42 = some a42 := rfl
theorem e43 : tr 43 = some a43 := rfl
theorem e44 : tr 44 = some a44 := rfl
theorem e45 : tr 45 = some a45 := rfl
theorem e46 : tr 46 = some a46 := rfl
theorem e47 : tr 47 = some a47 := rfl
theorem e48 : tr 48 = some a48 := rfl
theorem e49 : tr 49 = some a49 := rfl
theorem e50 : tr 50 = some a50 := rfl
theorem e51 : tr 51 = some a51 := rfl
theorem e52 : tr 52 = some a52 := rfl
theorem e53 : tr 53 = some a53 := rfl
theorem e54 : tr 54 = some a54 := rfl
theorem e55 : tr 55 = some a55 := rfl
theorem e56 : tr 56 = some a56 := rfl
theorem e57 : tr 57 = some a57 := rfl
theorem e58 : tr 58 = some a58 := rfl
theorem e59 : tr 59 = some a59 := rfl
theorem e60 : tr 60 = some a60 := rfl
theorem e61 : tr 61 = some a61 := rfl

end Go.Proofs.Ytdddehniepofmaa.Fn
set_option linter.unusedVariables false
set_option linter.unusedSimpArgs false
namespace Go.AM

/-! ### Slices that are read -/
section
variable {α : Type}
/-- The element at a place, or the type's default. -/
def gt [Inhabited α] (l : List α) (i : Nat) : α := l.getD i default
theorem gt_lt [Inhabited α] {l : List α} {i : Nat} (h : i < l.length) : gt l i = l[i] := by simp [gt, List.getD_eq_getElem?_getD, List.getElem?_eq_getElem h]
theorem gt_cons_zero [Inhabited α] {x : α} {l : List α} : gt (x :: l) 0 = x := rfl
theorem gt_cons_succ [Inhabited α] {x : α} {l : List α} {i : Nat} : gt (x :: l) (i + 1) = gt l i := by simp [gt]
theorem gt_append_left [Inhabited α] {l r : List α} {i : Nat} (h : i < l.length) : gt (l ++ r) i = gt l i := by
  simp [gt, List.getD_eq_getElem?_getD, List.getElem?_append_left h]
theorem gt_append_len [Inhabited α] {l r : List α} {i : Nat} : gt (l ++ r) (l.length + i) = gt r i := by
  unfold gt
  rw [List.getD_eq_getElem?_getD, List.getD_eq_getElem?_getD, List.getElem?_append_right (by omega), Nat.add_sub_cancel_left]
theorem gt_mem [Inhabited α] {l : List α} {i : Nat} (h : i < l.length) : gt l i ∈ l := by rw [gt_lt h]; exact List.getElem_mem h

/-- Where a slice begins. -/
def addrOf (p : Option Addr) : Addr := p.getD ⟨0, 0, none⟩
/-- The address of an element. -/
def elt (p : Option Addr) (e i : Nat) : Addr := (addrOf p).add (i * e)

/-- A slice at p has the elements l, each in e cells. -/
def Sl (H : Heap) (enc : α → List Value) (e : Nat) (p : Option Addr) (l : List α) : Prop :=
  match p with
  | none => l = []
  | some a => a.spot = none ∧ (l ≠ [] → ∃ ro c, hget H a.block = .cells ro c ∧ a.off + l.length * e ≤ c.length ∧ (c.drop a.off).take (l.length * e) = l.flatMap enc)

theorem hget_alive {H : Heap} {i : Nat} {ro : Bool} {c : List Value} (h : hget H i = .cells ro c) : i < H.length := by
  rcases Nat.lt_or_ge i H.length with h1 | h1
  · exact h1
  · unfold hget at h
    rw [List.getD_eq_getElem?_getD, List.getElem?_eq_none h1] at h
    cases h

def cellsOf : Blk → List Value | .cells _ c => c | _ => []
def isCells : Blk → Bool | .cells _ _ => true | _ => false
theorem cellsOf_cells {ro : Bool} {c : List Value} : cellsOf (.cells ro c) = c := rfl
theorem isCells_cells {ro : Bool} {c : List Value} : isCells (.cells ro c) = true := id rfl
theorem Sl.app {H : Heap} {enc : α → List Value} {e : Nat} {p : Option Addr} {l : List α} (h : Sl H enc e p l) (X : Heap) : Sl (H ++ X) enc e p l := by
  cases p with
  | none => exact h
  | some a =>
    refine ⟨h.1, fun hn => ?_⟩
    obtain ⟨ro, c, h2, h3⟩ := h.2 hn
    exact ⟨ro, c, by rw [hget_old (hget_alive h2)]; exact h2, h3⟩

/-- Heaps with the same cells. -/
theorem Sl.sim {H G : Heap} {enc : α → List Value} {e : Nat} {p : Option Addr} {l : List α} (h : Sl H enc e p l) (hG : ∀ b ro c, hget H b = .cells ro c → hget G b = .cells ro c) : Sl G enc e p l := by
  cases p with
  | none => exact h
  | some a =>
    refine ⟨h.1, fun hn => ?_⟩
    obtain ⟨ro, c, h2, h3⟩ := h.2 hn
    exact ⟨ro, c, hG _ _ _ h2, h3⟩
theorem flat_len {enc : α → List Value} {e : Nat} (he : ∀ x, (enc x).length = e) (l : List α) : (l.flatMap enc).length = l.length * e := by
  induction l with
  | nil => simp
  | cons x l ih => simp [ih, he, Nat.add_mul, Nat.add_comm]
theorem flat_drop {enc : α → List Value} {e : Nat} (he : ∀ x, (enc x).length = e) : ∀ (l : List α) (i : Nat), i < l.length → [Inhabited α] → ((l.flatMap enc).drop (i * e)).take e = enc (gt l i)
  | [], i, h, _ => by simp at h
  | x :: l, 0, _, _ => by
    rw [List.flatMap_cons, Nat.zero_mul, List.drop_zero, List.take_append_of_le_length (by rw [he]; exact Nat.le_refl _), List.take_of_length_le (by rw [he]; exact Nat.le_refl _)]
    rfl
  | x :: l, i + 1, h, _ => by
    rw [List.flatMap_cons, List.drop_append, List.drop_eq_nil_of_le (by rw [he, Nat.add_mul]; omega), List.nil_append, he, show (i + 1) * e - e = i * e by rw [Nat.add_mul]; omega]
    have := flat_drop he l i (by simpa using h)
    rw [this, gt_cons_succ]

variable [Inhabited α] {H : Heap} {enc : α → List Value} {e : Nat} {p : Option Addr} {l : List α}
theorem Sl.loadCells (h : Sl H enc e p l) (he : ∀ x, (enc x).length = e) {i : Nat} (hi : i < l.length) : AM.loadCells H (elt p e i) e = some (enc (gt l i)) := by
  cases p with
  | none => simp only [Sl] at h; subst h; simp at hi
  | some a =>
    obtain ⟨b, o, s⟩ := a
    obtain ⟨ro, c, h2, h4, h3⟩ := h.2 (by rintro rfl; simp at hi)
    have h1 := h.1
    simp only at h1 h2 h3 h4; subst h1
    have hie : i * e + e ≤ l.length * e := by
      have := Nat.mul_le_mul_right e (Nat.succ_le_of_lt hi)
      rw [Nat.succ_mul] at this; exact this
    have hf := flat_drop he l i hi
    rw [← h3, List.drop_take, List.take_take, List.drop_drop] at hf
    simp only [elt, addrOf, Option.getD_some, addr_add, AM.loadCells, h2]
    rw [if_pos (by omega), ← hf, Nat.min_eq_left (by omega)]
theorem Sl.loadCell (h : Sl H enc e p l) (he : ∀ x, (enc x).length = e) {i j : Nat} (hi : i < l.length) (hj : j < e) : AM.loadCell H ((elt p e i).add j) = (enc (gt l i))[j]? := by
  have h0 := h.loadCells he hi
  cases p with
  | none => simp only [Sl] at h; subst h; simp at hi
  | some a =>
    obtain ⟨b, o, s⟩ := a
    obtain ⟨ro, c, h2, h4, h3⟩ := h.2 (by rintro rfl; simp at hi)
    have h1 := h.1
    simp only at h1 h2 h3 h4; subst h1
    simp only [elt, addrOf, Option.getD_some, addr_add, AM.loadCells, h2] at h0
    split at h0
    · simp only [Option.some.injEq] at h0
      rw [← h0]
      simp only [elt, addrOf, Option.getD_some, addr_add, AM.loadCell, h2, List.getElem?_take, List.getElem?_drop, if_pos hj, Nat.add_assoc]
    · cases h0
theorem Sl.loadCell0 (h : Sl H enc e p l) (he : ∀ x, (enc x).length = e) {i : Nat} (hi : i < l.length) (hj : 0 < e) : AM.loadCell H (elt p e i) = (enc (gt l i))[0]? := by
  rw [← h.loadCell he hi hj]
  congr 1
omit [Inhabited α] in
theorem Sl.idx (h : Sl H enc e p l) {i c : Nat} {k : IntKind} {H1 : Heap} (hi : i < l.length) : idxK e (.slice p l.length c) (.int k (i : Int)) H1 = some (.pointer (some (elt p e i)), H1) := by
  cases p with
  | none => simp only [Sl] at h; subst h; simp at hi
  | some a => exact idxK_nat hi
end

theorem hget_set_eq {X : Heap} {j : Nat} {b : Blk} (h : j < X.length) : hget (X.set j b) j = b := by
  unfold hget; rw [List.getD_eq_getElem?_getD, List.getElem?_set_self h]; rfl
theorem hget_set_ne {X : Heap} {i j : Nat} {b : Blk} (h : i ≠ j) : hget (X.set j b) i = hget X i := by
  unfold hget; rw [List.getD_eq_getElem?_getD, List.getD_eq_getElem?_getD, List.getElem?_set_ne (Ne.symm h)]
theorem find_drop {α : Type} [Inhabited α] {l : List α} {i : Nat} {w : α → Bool} (h : i < l.length) : (l.drop i).find? w = if w (gt l i) = true then some (gt l i) else (l.drop (i + 1)).find? w := by
  rw [List.drop_eq_getElem_cons h, List.find?_cons, gt_lt h]
  split <;> simp_all

theorem idxK_zero {e len c : Nat} {p : Addr} {k : IntKind} {H : Heap} (h : 0 < len) : idxK e (.slice (some p) len c) (.int k 0) H = some (.pointer (some (p.add 0)), H) := by
  have := idxK_nat (e := e) (n := 0) (len := len) (c := c) (p := p) (k := k) (H := H) h
  rw [Nat.zero_mul] at this
  exact this

/-! ### Maps -/
theorem keyOk_int {k : IntKind} {n : Int} : keyOk (.int k) (.int k n) = true := by simp [keyOk]
theorem keyOk_str {b : ByteArray} : keyOk .str (.string b) = true := id rfl
theorem findKey_nil {v : Value} {i : Nat} : findKey v [] i = some none := rfl
theorem findKey_int {k : IntKind} {a b : Int} {v : Value} {es : List (Value × Value)} {i : Nat} : findKey (.int k a) ((.int k b, v) :: es) i = if a = b then some (some (i, v)) else findKey (.int k a) es (i + 1) := by
  simp only [findKey, keyEq, if_true]
  by_cases h : a = b
  · simp [h]
  · have e : (a == b) = false := by simpa using h
    simp [h, e]
theorem mapEntries_some {H : Heap} {r : Nat} : mapEntries H (.map (some r)) = (match hget H r with | .map es => some es | _ => none) := rfl
theorem mapEntries_none {H : Heap} : mapEntries H (.map none) = some [] := rfl
theorem findKey_no {α : Type} {k : IntKind} {a : Int} {f : α → Int} {g : α → Value} : ∀ {l : List α} {i : Nat}, (∀ x ∈ l, f x ≠ a) → findKey (.int k a) (l.map fun x => (.int k (f x), g x)) i = some none
  | [], _, _ => rfl
  | x :: l, i, h => by
    rw [List.map_cons, findKey_int, if_neg (fun e => h x (by simp) e.symm)]
    exact findKey_no fun y hy => h y (by simp [hy])
theorem findKey_yes {α : Type} {k : IntKind} {a : Int} {f : α → Int} {g : α → Value} {v : Value} : ∀ {l : List α} {i : Nat}, (∃ x ∈ l, f x = a) → (∀ x ∈ l, f x = a → g x = v) → ∃ j, findKey (.int k a) (l.map fun x => (.int k (f x), g x)) i = some (some (j, v))
  | [], _, h, _ => by obtain ⟨x, hx, _⟩ := h; simp at hx
  | x :: l, i, h, hv => by
    rw [List.map_cons, findKey_int]
    by_cases e : a = f x
    · exact ⟨i, by rw [if_pos e, hv x (by simp) e.symm]⟩
    · rw [if_neg e]
      refine findKey_yes ?_ fun y hy => hv y (by simp [hy])
      obtain ⟨y, hy, hy2⟩ := h
      rcases List.mem_cons.1 hy with rfl | hy
      · exact absurd hy2.symm e
      · exact ⟨y, hy, hy2⟩

/-! ### Heaps that grow -/
def Ext (H G : Heap) : Prop := ∃ X, G = H ++ X
section
variable {H G : Heap}
theorem Ext.refl : Ext H H := ⟨[], by simp⟩
theorem Ext.app (h : Ext H G) {X : Heap} : Ext H (G ++ X) := by
  obtain ⟨Y, rfl⟩ := h
  exact ⟨Y ++ X, by simp⟩
theorem Ext.trans {K : Heap} (h : Ext H G) (k : Ext G K) : Ext H K := by
  obtain ⟨Y, rfl⟩ := k
  exact h.app
theorem Ext.len (h : Ext H G) : H.length ≤ G.length := by
  obtain ⟨Y, rfl⟩ := h
  simp
theorem Ext.sl {α : Type} {enc : α → List Value} {e : Nat} {p : Option Addr} {l : List α} (h : Ext H G) (hs : Sl H enc e p l) : Sl G enc e p l := by
  obtain ⟨Y, rfl⟩ := h
  exact hs.app Y
theorem Ext.cells (h : Ext H G) {b : Nat} {ro : Bool} {c : List Value} (hs : hget H b = .cells ro c) : hget G b = .cells ro c := by
  obtain ⟨Y, rfl⟩ := h
  rw [hget_old (hget_alive hs)]; exact hs
end

/-! ### Loops -/
section
variable {E : Env} {af : AFunc} {lim : Nat} {K : List AItem} {fr : Nat → Value} {H : Heap} {R : Value → Heap → Prop} {b : ACode}
/-- A loop whose rounds end it, or come again with less. -/
theorem Ret_rounds {S : Type} (m : S → Nat) (I : S → (Nat → Value) → Heap → Prop) (s : S) (h0 : I s fr H)
    (step : ∀ s fr H, I s fr H → (∀ s' fr' H', I s' fr' H' → m s' < m s → Ret E af lim (.inLoop b :: K) fr' H' R) → Ret E af lim (.code b :: .inLoop b :: K) fr H R) :
    Ret E af lim (.code (.loop b) :: K) fr H R := by
  rw [Ret_loop, ← Ret_inLoop]
  have key : ∀ n s fr H, m s ≤ n → I s fr H → Ret E af lim (.inLoop b :: K) fr H R := by
    intro n
    induction n with
    | zero =>
      intro s fr H hm hi
      rw [Ret_inLoop]
      exact step s fr H hi fun s' fr' H' _ hl => absurd hl (by omega)
    | succ n ih =>
      intro s fr H hm hi
      rw [Ret_inLoop]
      exact step s fr H hi fun s' fr' H' hi' hl => ih s' fr' H' (by omega) hi'
  exact key _ s fr H (Nat.le_refl _) h0

theorem CallR.mono {mp : Bool} {g : FuncId} {as : List Value} {Q Q' : Value → Heap → Prop} (h : CallR E mp lim g as H Q) (hq : ∀ v H', Q v H' → Q' v H') : CallR E mp lim g as H Q' := by
  obtain ⟨n, v, H', h1, h2⟩ := h
  exact ⟨n, v, H', h1, hq v H' h2⟩
theorem Ret.mono {k : List AItem} {R' : Value → Heap → Prop} (h : Ret E af lim k fr H R) (hq : ∀ v H', R v H' → R' v H') : Ret E af lim k fr H R' := by
  obtain ⟨n, v, H', h1, h2⟩ := h
  exact ⟨n, v, H', h1, hq v H' h2⟩
theorem Ret_pad {k : List AItem} (h : Ret E af lim k fr (H ++ []) R) : Ret E af lim k fr H R := by rwa [List.append_nil] at h
theorem Ret_exit_eq {k k' : List AItem} {id : Nat} (h : aExit id k = aExit id k') : Ret E af lim (.code (.exit id) :: k) fr H R = Ret E af lim (.code (.exit id) :: k') fr H R := by
  cases hk : aExit id k' with
  | some K' => rw [Ret_exit (h.trans hk), Ret_exit hk]
  | none =>
    have key : ∀ {k : List AItem}, aExit id k = none → ¬ Ret E af lim (.code (.exit id) :: k) fr H R := by
      rintro k hk ⟨n, v, H', hx, _⟩
      cases n with
      | zero => simp [aRun] at hx
      | succ n => rw [aRun.eq_def] at hx; simp only [hk] at hx; cases hx
    exact propext ⟨fun q => absurd q (key (h.trans hk)), fun q => absurd q (key hk)⟩
theorem Ret_exit_code {id : Nat} {c : ACode} : Ret E af lim (.code (.exit id) :: .code c :: K) fr H R = Ret E af lim (.code (.exit id) :: K) fr H R := Ret_exit_eq (by simp [aExit])
theorem Ret_exit_loop {id : Nat} {c : ACode} : Ret E af lim (.code (.exit id) :: .inLoop c :: K) fr H R = Ret E af lim (.code (.exit id) :: K) fr H R := Ret_exit_eq (by simp [aExit])
theorem Ret_exit_other {id id' : Nat} (h : id' ≠ id) : Ret E af lim (.code (.exit id) :: .inBlock id' :: K) fr H R = Ret E af lim (.code (.exit id) :: K) fr H R := Ret_exit_eq (by simp [aExit, h])
theorem Ret_exit_here {id : Nat} : Ret E af lim (.code (.exit id) :: .inBlock id :: K) fr H R = Ret E af lim K fr H R := Ret_exit (by simp [aExit])
/-! ### A range over a function; the ways out of a round -/
theorem Ret_first {k : List AItem} {r : Option (Value × Heap)} (h : ∀ n, aRun E (n + 1) af lim k fr H = r) : Ret E af lim k fr H R = opK r R := by
  apply propext
  constructor
  · rintro ⟨n, v, H', hx, hr⟩
    cases n with
    | zero => simp [aRun] at hx
    | succ n => rw [h] at hx; rw [hx]; exact hr
  · intro hk
    cases hx : r with
    | none => rw [hx] at hk; exact hk.elim
    | some p => rw [hx] at hk; exact ⟨1, p.1, p.2, by rw [h, hx], hk⟩
def shutK (r : Option Heap) (f : Heap → Prop) (_ : Bx f := ⟨⟩) : Prop := match r with | some H' => f H' | none => False
theorem shutK_congr {r r' : Option Heap} {f : Heap → Prop} (h : r = r') : shutK r f = shutK r' f := by rw [h]
theorem shutK_some {f : Heap → Prop} : shutK (some H) f = f H := rfl
theorem Ret_retM : Ret E af lim (.code .retM :: K) fr H R = shutK (shut lim (marks K) H) fun H' => opK ((result fr H' af.results).map (·, H')) R := by
  rw [Ret_first (r := match shut lim (marks K) H with | some H' => (result fr H' af.results).map (·, H') | none => none) fun n => by rw [aRun.eq_def]; rfl]
  cases shut lim (marks K) H <;> rfl
theorem marks_nil : marks [] = [] := rfl
theorem marks_code {c : ACode} : marks (.code c :: K) = marks K := rfl
theorem marks_loop {c : ACode} : marks (.inLoop c :: K) = marks K := rfl
theorem marks_block {id : Nat} : marks (.inBlock id :: K) = marks K := rfl
theorem marks_mark {i : Nat} : marks (.mark i :: K) = marks K ++ [i] := rfl
theorem shut_nil : shut lim [] H = some H := rfl
theorem shut_cons {i : Nat} {l : List Nat} (h : hget H i = .dfr) (hl : lim ≤ i) : shut lim (i :: l) H = shut lim l (H.set i .dead) := by simp only [shut, h, if_pos hl]
def endB (i : Nat) (j : Option ACode) (H : Heap) (b : Blk) : Option (Value × Heap) := match b with | .loop x => some (.bool j.isNone, H.set i (.loop { x with st := if j.isNone then 0 else 2, pend := j })) | _ => none
theorem endB_on {i st N : Nat} {p : Option ACode} {g : Nat → Value} {ps : List Nat} {a b : ACode} : endB i none H (.loop ⟨st, p, g, N, ps, a, b⟩) = some (.bool true, H.set i (.loop ⟨0, none, g, N, ps, a, b⟩)) := rfl
theorem endB_off {i st N : Nat} {p : Option ACode} {g : Nat → Value} {ps : List Nat} {a b c : ACode} : endB i (some c) H (.loop ⟨st, p, g, N, ps, a, b⟩) = some (.bool false, H.set i (.loop ⟨2, some c, g, N, ps, a, b⟩)) := rfl
theorem endRound_get {i : Nat} {j : Option ACode} : endRound i j H = endB i j H (hget H i) := by unfold endRound endB; cases hget H i <;> rfl
theorem Ret_round {i : Nat} (hl : lim ≤ i) : Ret E af lim (.round i :: K) fr H R = opK (endB i none H (hget H i)) R := by
  rw [← endRound_get]; exact Ret_first fun n => by rw [aRun.eq_def]; simp only [if_pos hl]
def begK (b : Blk) (f : LoopB → Prop) (_ : Bx f := ⟨⟩) : Prop := match b with | .loop x => if x.st = 0 then f x else False | _ => False
theorem begK_congr {b b' : Blk} {f : LoopB → Prop} (h : b = b') : begK b f = begK b' f := by rw [h]
theorem begK_loop {N : Nat} {p : Option ACode} {g : Nat → Value} {ps : List Nat} {a b : ACode} {f : LoopB → Prop} : begK (.loop ⟨0, p, g, N, ps, a, b⟩) f = f ⟨0, p, g, N, ps, a, b⟩ := by simp [begK]
theorem Ret_begin {i : Nat} (hl : lim ≤ i) : Ret E af lim (.begin i :: K) fr H R = begK (hget H i) fun x => Ret E af lim K fr (H.set i (.loop { x with st := 1 })) R := by
  unfold begK
  have never : (∀ n, aRun E (n + 1) af lim (.begin i :: K) fr H = none) → Ret E af lim (.begin i :: K) fr H R = False := fun h => by rw [Ret_first (r := none) h]; rfl
  cases hb : hget H i with
  | loop x =>
    simp only
    split
    · rename_i hs
      exact Ret.succ fun n => by rw [aRun.eq_def]; simp only [hb, if_pos (And.intro hs hl)]
    · rename_i hs
      exact never fun n => by rw [aRun.eq_def]; simp only [hb, hs, false_and, if_false]
  | _ => exact never fun n => by rw [aRun.eq_def]; simp only [hb]
theorem Ret_never {k : List AItem} (h : ∀ n, aRun E (n + 1) af lim k fr H = none) : Ret E af lim k fr H R = False := by rw [Ret_first (r := none) h]; rfl
theorem Ret_retR_eq {k k' : List AItem} (h : roundOf k = roundOf k') : Ret E af lim (.code .retR :: k) fr H R = Ret E af lim (.code .retR :: k') fr H R := by
  rw [Ret_first (r := match roundOf k with | some i => if lim ≤ i then endRound i (some .retM) H else none | none => none) fun n => by rw [aRun.eq_def]; rfl,
    Ret_first (k := .code .retR :: k') (r := match roundOf k' with | some i => if lim ≤ i then endRound i (some .retM) H else none | none => none) fun n => by rw [aRun.eq_def]; rfl, h]
theorem Ret_retR_code {c : ACode} : Ret E af lim (.code .retR :: .code c :: K) fr H R = Ret E af lim (.code .retR :: K) fr H R := Ret_retR_eq rfl
theorem Ret_retR_loop {c : ACode} : Ret E af lim (.code .retR :: .inLoop c :: K) fr H R = Ret E af lim (.code .retR :: K) fr H R := Ret_retR_eq rfl
theorem Ret_retR_block {id : Nat} : Ret E af lim (.code .retR :: .inBlock id :: K) fr H R = Ret E af lim (.code .retR :: K) fr H R := Ret_retR_eq rfl
theorem Ret_retR_round {i : Nat} (hl : lim ≤ i) : Ret E af lim (.code .retR :: .round i :: K) fr H R = opK (endB i (some .retM) H (hget H i)) R := by
  rw [← endRound_get]; exact Ret_first fun n => by rw [aRun.eq_def]; simp only [roundOf, if_pos hl]
theorem Ret_exitR_eq {k k' : List AItem} {id : Nat} (h : aExit id k = aExit id k') (h2 : roundOf k = roundOf k') : Ret E af lim (.code (.exitR id) :: k) fr H R = Ret E af lim (.code (.exitR id) :: k') fr H R := by
  cases hk : aExit id k' with
  | some K' =>
    exact (Ret.succ (k1 := K') (fr1 := fr) (H1 := H) fun n => by rw [aRun.eq_def]; simp only [h.trans hk]).trans (Ret.succ fun n => by rw [aRun.eq_def]; simp only [hk]).symm
  | none =>
    rw [Ret_first (r := match roundOf k with | some i => if lim ≤ i then endRound i (some (.exit id)) H else none | none => none) fun n => by rw [aRun.eq_def]; simp only [h.trans hk]; rfl,
      Ret_first (k := .code (.exitR id) :: k') (r := match roundOf k' with | some i => if lim ≤ i then endRound i (some (.exit id)) H else none | none => none) fun n => by rw [aRun.eq_def]; simp only [hk]; rfl, h2]
theorem Ret_exitR_code {id : Nat} {c : ACode} : Ret E af lim (.code (.exitR id) :: .code c :: K) fr H R = Ret E af lim (.code (.exitR id) :: K) fr H R := Ret_exitR_eq (by simp [aExit]) rfl
theorem Ret_exitR_loop {id : Nat} {c : ACode} : Ret E af lim (.code (.exitR id) :: .inLoop c :: K) fr H R = Ret E af lim (.code (.exitR id) :: K) fr H R := Ret_exitR_eq (by simp [aExit]) rfl
theorem Ret_exitR_other {id id' : Nat} (h : id' ≠ id) : Ret E af lim (.code (.exitR id) :: .inBlock id' :: K) fr H R = Ret E af lim (.code (.exitR id) :: K) fr H R := Ret_exitR_eq (by simp [aExit, h]) rfl
theorem Ret_exitR_here {id : Nat} : Ret E af lim (.code (.exitR id) :: .inBlock id :: K) fr H R = Ret E af lim K fr H R := Ret.succ fun n => by rw [aRun.eq_def]; simp [aExit]
theorem Ret_exitR_round {id i : Nat} (hl : lim ≤ i) : Ret E af lim (.code (.exitR id) :: .round i :: []) fr H R = opK (endB i (some (.exit id)) H (hget H i)) R := by
  rw [← endRound_get]; exact Ret_first fun n => by rw [aRun.eq_def]; simp only [aExit, roundOf, if_pos hl]

/-- What is to be done behind the call of a range over a function. -/
def pendI (x : LoopB) : List AItem := match x.pend with | none => [] | some c => [.code c]
theorem pendI_none {st N : Nat} {g : Nat → Value} {ps : List Nat} {a b : ACode} : pendI ⟨st, none, g, N, ps, a, b⟩ = [] := rfl
theorem pendI_some {st N : Nat} {g : Nat → Value} {ps : List Nat} {a b c : ACode} : pendI ⟨st, some c, g, N, ps, a, b⟩ = [.code c] := rfl
/-- The function that is ranged over. -/
def calL (c : Option ((FuncId ⊕ Nat) × List Value)) (f : FuncId → List Value → Prop) (_ : Bx f := ⟨⟩) : Prop := match c with | some (.inl g, as) => f g as | _ => False
theorem calL_some {g : FuncId} {as : List Value} {f : FuncId → List Value → Prop} : calL (some (.inl g, as)) f = f g as := rfl
theorem calL_congr {c c' : Option ((FuncId ⊕ Nat) × List Value)} {f : FuncId → List Value → Prop} (h : c = c') : calL c f = calL c' f := by rw [h]
/-- The state of the loop when its function has returned. -/
def endK (b : Blk) (f : LoopB → Prop) (_ : Bx f := ⟨⟩) : Prop := match b with | .loop x => if x.st = 1 then False else f x | _ => False
theorem endK_0 {N : Nat} {p : Option ACode} {g : Nat → Value} {ps : List Nat} {a b : ACode} {f : LoopB → Prop} : endK (.loop ⟨0, p, g, N, ps, a, b⟩) f = f ⟨0, p, g, N, ps, a, b⟩ := by simp [endK]
theorem endK_2 {N : Nat} {p : Option ACode} {g : Nat → Value} {ps : List Nat} {a b : ACode} {f : LoopB → Prop} : endK (.loop ⟨2, p, g, N, ps, a, b⟩) f = f ⟨2, p, g, N, ps, a, b⟩ := by simp [endK]
theorem endK_loop {x : LoopB} {f : LoopB → Prop} (h : x.st ≠ 1) : endK (.loop x) f = f x := by simp [endK, h]
theorem endK_congr {b b' : Blk} {f : LoopB → Prop} (h : b = b') : endK b f = endK b' f := by rw [h]
theorem Ret_rangeF0 {f : Operand} {ps : List Nat} {a b : ACode} {g : FuncId} {as : List Value} (hc : callee (ev fr f) [.func (.yield (H.length + 1)) #[] #[]] = some (.inl g, as)) :
    Ret E af lim (.code (.rangeF f ps a b) :: K) fr H R = CallR E false lim g as (H ++ [.dfr, .loop ⟨0, none, fr, af.ntmps, ps, a, b⟩]) fun _ H2 =>
      endK (hget H2 (H.length + 1)) fun x => Ret E af lim (pendI x ++ (K ++ [.mark H.length])) fr (H2.set (H.length + 1) .dead) R := by
  apply propext
  constructor
  · rintro ⟨n, v, H', hx, hr⟩
    cases n with
    | zero => simp [aRun] at hx
    | succ n =>
    rw [aRun.eq_def] at hx
    simp only [hc] at hx
    split at hx
    case h_2 => cases hx
    rename_i v2 H2 hcall
    refine ⟨n, v2, H2, hcall, ?_⟩
    split at hx
    case h_2 => cases hx
    rename_i x hb
    split at hx
    · cases hx
    rename_i hst
    rw [hb, endK_loop hst]
    exact ⟨n, v, H', hx, hr⟩
  · rintro ⟨n, v2, H2, hcall, hk⟩
    unfold endK at hk
    split at hk
    case h_2 => exact hk.elim
    rename_i x hb
    split at hk
    · exact hk.elim
    rename_i hst
    obtain ⟨m, v, H', hx, hr⟩ := hk
    refine ⟨max n m + 1, v, H', ?_, hr⟩
    rw [aRun.eq_def]
    have e : callWith E (aRun E (max n m)) false lim (.inl g) as (H ++ [.dfr, .loop ⟨0, none, fr, af.ntmps, ps, a, b⟩]) = some (v2, H2) := aCall_le E (Nat.le_max_left n m) _ _ _ _ _ _ hcall
    simp only [hc, e, hb, if_neg hst]
    exact aRun_le E (Nat.le_max_right n m) hx

theorem Ret_rangeF {f : Operand} {ps : List Nat} {a b : ACode} :
    Ret E af lim (.code (.rangeF f ps a b) :: K) fr H R = calL (callee (ev fr f) [.func (.yield (H.length + 1)) #[] #[]]) fun g as => CallR E false lim g as (H ++ [.dfr, .loop ⟨0, none, fr, af.ntmps, ps, a, b⟩]) fun _ H2 =>
      endK (hget H2 (H.length + 1)) fun x => Ret E af lim (pendI x ++ (K ++ [.mark H.length])) fr (H2.set (H.length + 1) .dead) R := by
  unfold calL
  split
  · rename_i g as hc; exact Ret_rangeF0 hc
  · rename_i hc
    refine Ret_never fun n => ?_
    rw [aRun.eq_def]
    simp only
theorem CallY.det {mp : Bool} {i : Nat} {as : List Value} {Q : Value → Heap → Prop} {n : Nat} {v : Value} {H' : Heap} (h : aCall E n mp lim (.inr i) as H = some (v, H')) : CallY E mp lim i as H Q = Q v H' := by
  apply propext
  constructor
  · rintro ⟨m, v', H1, h1, h2⟩
    have e1 := aCall_le E (Nat.le_max_left n m) _ _ _ _ _ _ h
    have e2 := aCall_le E (Nat.le_max_right n m) _ _ _ _ _ _ h1
    rw [e1] at e2; cases e2; exact h2
  · exact fun hq => ⟨n, v, H', h, hq⟩
theorem CallY.mono {mp : Bool} {i : Nat} {as : List Value} {Q Q' : Value → Heap → Prop} (h : CallY E mp lim i as H Q) (hq : ∀ v H', Q v H' → Q' v H') : CallY E mp lim i as H Q' := by
  obtain ⟨n, v, H', h1, h2⟩ := h
  exact ⟨n, v, H', h1, hq v H' h2⟩
/-- A round: its assignments, its body. -/
theorem CallY_run {i : Nat} {as : List Value} {Q : Value → Heap → Prop} {x : LoopB} (hb : hget H i = .loop x) (hl : lim ≤ i) (hlen : as.length = x.params.length) (hp : (x.params.all (· < x.N)) = true) :
    CallY E false lim i as H Q = Ret E ⟨x.N, [], .skip⟩ lim [.code x.assign, .begin i, .code x.body, .round i] (setParams x.fr x.params as) H Q := by
  unfold CallY Ret aCall callWith
  simp only [hb, if_pos (And.intro hl (And.intro hlen hp)), Bool.false_eq_true, if_false]
theorem Ret_code {c c' : ACode} (h : c = c') : Ret E af lim (.code c :: K) fr H R = Ret E af lim (.code c' :: K) fr H R := by rw [h]
theorem loadCell_lit {b o : Nat} {s : Option Nat} : AM.loadCell H ⟨b, o, s⟩ = (match hget H b with | .cells _ c => c[o]? | _ => none) := rfl
theorem loadCells_lit {b o n : Nat} {s : Option Nat} : AM.loadCells H ⟨b, o, s⟩ n = (match hget H b with | .cells _ c => if o + n ≤ c.length then some ((c.drop o).take n) else none | _ => none) := rfl
theorem storeAt_lit {b o : Nat} {s : Option Nat} {vs : List Value} : AM.storeAt lim H ⟨b, o, s⟩ vs = (match hget H b with | .cells false c => if lim ≤ b ∧ o + vs.length ≤ c.length then some (H.set b (.cells false (setAll c o vs))) else none | _ => none) := rfl
/-- To what a call comes, it comes but to that. -/
theorem CallR.eq {mp : Bool} {g : FuncId} {as : List Value} {Q : Value → Heap → Prop} {v : Value} {H' : Heap} (h : CallR E mp lim g as H fun v' H1 => v' = v ∧ H1 = H') : CallR E mp lim g as H Q = Q v H' := by
  obtain ⟨n, v', H1, h1, rfl, rfl⟩ := h
  exact CallR.det h1
end



/-! ### Cases -/
section
variable {p q : Prop} {t b : Bool}
theorem wantK_undef : wantK undef b p q = q := by unfold undef wantK; rfl
theorem wantK_not : wantK (.bool (!t)) b p q = wantK (.bool t) (!b) p q := by cases t <;> cases b <;> simp [wantK]
theorem condK_not : condK (.bool (!t)) p q = condK (.bool t) q p := by cases t <;> rfl
end
theorem int_lt_cast {a b : Nat} : ((a : Int) < (b : Int)) = (a < b) := by simp
theorem int_le_cast {a b : Nat} : ((a : Int) ≤ (b : Int)) = (a ≤ b) := by simp
theorem int_zero_lt {a : Nat} : ((0 : Int) < (a : Int)) = (0 < a) := by simp
theorem decide_t {p : Prop} [Decidable p] (h : p) : decide p = true := by simp [h]

theorem wrap_id {n : Int} (h1 : -2 ^ 63 ≤ n) (h2 : n < 2 ^ 63) : IntKind.i64.wrap n = n := by
  by_cases h : 0 ≤ n
  · have h1 : n % 2 ^ 64 = n := Int.emod_eq_of_lt h (by omega)
    simp only [IntKind.wrap, IntKind.bits, IntKind.signed, h1]
    rw [if_neg (by simp; omega)]
  · have h1 : n % 2 ^ 64 = n + 2 ^ 64 := by
      rw [← Int.add_emod_right, Int.emod_eq_of_lt (by omega) (by omega)]
    simp only [IntKind.wrap, IntKind.bits, IntKind.signed, h1]
    rw [if_pos (by simp; omega)]
    omega
theorem wrap_pred {n : Nat} (h : 0 < n) (h2 : n < 2 ^ 63) : IntKind.i64.wrap ((n : Int) - 1) = ((n - 1 : Nat) : Int) := by rw [wrap_id (by omega) (by omega)]; omega
theorem hget_cells {H : Heap} {b : Nat} (h : isCells (hget H b) = true) : ∃ ro, hget H b = .cells ro (cellsOf (hget H b)) := by
  cases hb : hget H b with
  | cells ro c => exact ⟨ro, by simp [cellsOf]⟩
  | _ => rw [hb] at h; simp [isCells] at h
theorem Sl.lit {α : Type} {H : Heap} {enc : α → List Value} {e b : Nat} {l : List α} (he : ∀ x, (enc x).length = e) (h : isCells (hget H b) = true) (hc : cellsOf (hget H b) = l.flatMap enc) : Sl H enc e (some ⟨b, 0, none⟩) l := by
  obtain ⟨ro, h1⟩ := hget_cells h
  refine ⟨rfl, fun _ => ⟨ro, _, h1, ?_, ?_⟩⟩
  · rw [hc, flat_len he]; simp
  · rw [hc, List.drop_zero, List.take_of_length_le (by rw [flat_len he]; exact Nat.le_refl _)]

/-- All places from i on are as P says. -/
def allFrom (P : Nat → Bool) (n i : Nat) : Bool := (List.range' i (n - i)).all P
theorem allFrom_step {P : Nat → Bool} {n i : Nat} (h : i < n) : allFrom P n i = (P i && allFrom P n (i + 1)) := by
  unfold allFrom
  rw [show n - i = (n - (i + 1)) + 1 by omega, List.range'_succ, List.all_cons]
theorem allFrom_end {P : Nat → Bool} {n : Nat} : allFrom P n n = true := by simp [allFrom]
theorem allFrom_iff {P : Nat → Bool} {n i : Nat} : allFrom P n i = true ↔ ∀ j, i ≤ j → j < n → P j = true := by
  unfold allFrom
  simp only [List.all_eq_true, List.mem_range'_1]
  exact ⟨fun h j h1 h2 => h j ⟨h1, by omega⟩, fun h j hj => h j hj.1 (by omega)⟩
theorem cells_slice {a : Option Addr} {n c : Nat} : (Value.slice a n c).cells = #[.slice a n c] := rfl
theorem cells_ptr {a : Option Addr} : (Value.pointer a).cells = #[.pointer a] := rfl
theorem cells_str {s : ByteArray} : (Value.string s).cells = #[.string s] := rfl
theorem arr1 {v : Value} : (#[v] : Array Value).toList = [v] := rfl
theorem size1 {v : Value} : (#[v] : Array Value).size = 1 := rfl
theorem cells_map {a : Option Nat} : (Value.map a).cells = #[.map a] := rfl
theorem cells_func {f : Fn} {a b : Array Value} : (Value.func f a b).cells = #[.func f a b] := rfl
theorem fillV_slice {off : Nat} {a : Option Addr} {n m : Nat} {c : List Value} (h : off < c.length) : fillV off 1 (.slice a n m) c = some (c.set off (.slice a n m)) := fillV_one rfl rfl h
theorem fillV_ptr {off : Nat} {a : Option Addr} {c : List Value} (h : off < c.length) : fillV off 1 (.pointer a) c = some (c.set off (.pointer a)) := fillV_one rfl rfl h
theorem fillV_str {off : Nat} {a : ByteArray} {c : List Value} (h : off < c.length) : fillV off 1 (.string a) c = some (c.set off (.string a)) := fillV_one rfl rfl h
theorem fillV_map {off : Nat} {a : Option Nat} {c : List Value} (h : off < c.length) : fillV off 1 (.map a) c = some (c.set off (.map a)) := fillV_one rfl rfl h
theorem pad_4 : List.replicate 4 Blk.dead = [.dead, .dead, .dead, .dead] := rfl
theorem pad_5 : List.replicate 5 Blk.dead = [.dead, .dead, .dead, .dead, .dead] := rfl
theorem pad_6 : List.replicate 6 Blk.dead = [.dead, .dead, .dead, .dead, .dead, .dead] := rfl
theorem pad_7 : List.replicate 7 Blk.dead = [.dead, .dead, .dead, .dead, .dead, .dead, .dead] := rfl
theorem pad_8 : List.replicate 8 Blk.dead = [.dead, .dead, .dead, .dead, .dead, .dead, .dead, .dead] := rfl
theorem pad_9 : List.replicate 9 Blk.dead = [.dead, .dead, .dead, .dead, .dead, .dead, .dead, .dead, .dead] := rfl
theorem pad_10 : List.replicate 10 Blk.dead = [.dead, .dead, .dead, .dead, .dead, .dead, .dead, .dead, .dead, .dead] := rfl
theorem pad_11 : List.replicate 11 Blk.dead = [.dead, .dead, .dead, .dead, .dead, .dead, .dead, .dead, .dead, .dead, .dead] := rfl
theorem pad_12 : List.replicate 12 Blk.dead = [.dead, .dead, .dead, .dead, .dead, .dead, .dead, .dead, .dead, .dead, .dead, .dead] := rfl
theorem bytesOf_nil : bytesOf [] = some [] := rfl
theorem bytesOf_cons {n : Int} {l : List Value} : bytesOf (.int .u8 n :: l) = (bytesOf l).map (UInt8.ofNat n.toNat :: ·) := by
  simp only [bytesOf]; cases bytesOf l <;> rfl
theorem int_eq_cast {a b : Nat} : ((a : Int) = (b : Int)) = (a = b) := propext Int.ofNat_inj
theorem setAll_skip {v : Value} {c vs : List Value} : ∀ {o : Nat}, setAll (v :: c) (o + 1) vs = v :: setAll c o vs := by
  induction vs generalizing c with
  | nil => intro o; rfl
  | cons u vs ih => intro o; rw [setAll_cons, setAll_cons, List.set_cons_succ]; exact ih
theorem take_all {l : List Value} {n : Nat} (h : l.length = n) : l.take n = l := by subst h; exact List.take_length
theorem nat_not_neg {n : Nat} : ((n : Int) < 0) = False := by simp
/-- A block is set whole. -/
theorem setAll_full {c vs : List Value} (h : vs.length = c.length) : setAll c 0 vs = vs := by
  have key : ∀ (vs c pre : List Value), vs.length = c.length → setAll (pre ++ c) pre.length vs = pre ++ vs := by
    intro vs
    induction vs with
    | nil => intro c pre h; have : c = [] := List.length_eq_zero_iff.1 h.symm; subst this; rfl
    | cons v vs ih =>
      intro c pre h
      match c, h with
      | x :: c, h =>
        rw [setAll_cons]
        have e1 : (pre ++ x :: c).set pre.length v = (pre ++ [v]) ++ c := by simp
        rw [e1]
        have := ih c (pre ++ [v]) (by simpa using h)
        rw [List.length_append] at this
        simp only [List.length_cons, List.length_nil, Nat.zero_add] at this
        rw [this]; simp
  exact key vs c [] h
/-- Bytes as a string. -/
def b2sV (v : Value) (H : Heap) : Option (Value × Heap) := match v with
  | .slice none n _ => if n = 0 then some (.string .empty, H) else none
  | .slice (some a) n _ => match loadCells H a n with
    | some cs => match bytesOf cs with
      | some bs => some (.string ⟨bs.toArray⟩, H)
      | none => none
    | none => none
  | _ => none
theorem b2sV_some {a : Addr} {n c : Nat} {H : Heap} : b2sV (.slice (some a) n c) H = (match AM.loadCells H a n with
    | some cs => match bytesOf cs with
      | some bs => some (.string ⟨bs.toArray⟩, H)
      | none => none
    | none => none) := rfl
theorem on_b2sV {E : Env} {lim : Nat} {dest : Option Nat} {mask : List Nat} {fr : Nat → Value} {H : Heap} {Q : Value → Heap → Prop} {qx : Operand} : oK E lim none dest mask (.b2s qx) fr H Q = opK (b2sV (ev fr qx) H) Q := oK_none rfl
theorem ob_b2sV {E : Env} {lim b : Nat} {dest : Option Nat} {mask : List Nat} {fr : Nat → Value} {H : Heap} {Q : Value → Heap → Prop} {qx : Operand} : oK E lim (some b) dest mask (.b2s qx) fr H Q = opK (b2sV (ev fr qx) (maskH b mask H)) fun v H' => Q v (unmaskH b mask H H') := oK_some rfl
/-- A slice expression, by its values. -/
def unV : Operand → Value
  | .const v => v
  | _ => undef
def sliceV (e : Nat) (v : Value) (lo hi mx : Option Value) : Option Value := aSliceS e unV v (lo.map .const) (hi.map .const) (mx.map .const)
theorem aSliceS_V {e : Nat} {ρ : Operand → Value} {v : Value} {lo hi mx : Option Operand} : aSliceS e ρ v lo hi mx = sliceV e v (lo.map ρ) (hi.map ρ) (mx.map ρ) := by
  unfold sliceV aSliceS
  cases v with
  | slice a n c => cases lo <;> cases hi <;> cases mx <;> rfl
  | _ => rfl
end Go.AM
