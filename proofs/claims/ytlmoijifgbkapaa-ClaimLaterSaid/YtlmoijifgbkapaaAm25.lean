/-
  The abstract machine, part 25: working out a run on open values: 'Ret' tells of a run that it ends, and of what it ends with.
-/
import Derived.Test.YtlmoijifgbkapaaAm24
set_option linter.unusedVariables false
set_option linter.unusedSimpArgs false
namespace Go.AM
universe u
namespace Sym
abbrev t (n : Nat) : Operand := .tmp n
abbrev k (v : Value) : Operand := .const v
abbrev i (d : Nat) (o : AOp) : AIns := ⟨some d, none, o, none, []⟩
end Sym

/-- What simp is not to enter: an argument that a later argument's type names. -/
structure Bx {α : Sort u} (a : α) : Type where

def Ret (E : Env) (af : AFunc) (lim : Nat) (k : List AItem) (fr : Nat → Value) (H : Heap) (R : Value → Heap → Prop) (_ : Bx k := ⟨⟩) (_ : Bx R := ⟨⟩) : Prop :=
  ∃ n v H', aRun E n af lim k fr H = some (v, H') ∧ R v H'
def CallR (E : Env) (mp : Bool) (lim : Nat) (g : FuncId) (as : List Value) (H : Heap) (R : Value → Heap → Prop) (_ : Bx R := ⟨⟩) : Prop :=
  ∃ n v H', aCall E n mp lim g as H = some (v, H') ∧ R v H'

def opK (r : Option (Value × Heap)) (f : Value → Heap → Prop) (_ : Bx f := ⟨⟩) : Prop := match r with | some (v, H') => f v H' | none => False
def condK (v : Value) (p q : Prop) (_ : Bx p := ⟨⟩) (_ : Bx q := ⟨⟩) : Prop := match v with | .bool true => p | .bool false => q | _ => False
def wantK (v : Value) (b : Bool) (p q : Prop) (_ : Bx p := ⟨⟩) (_ : Bx q := ⟨⟩) : Prop := match v with | .bool c => if c = b then p else q | _ => q

section
variable {E : Env} {af : AFunc} {lim : Nat} {K : List AItem} {fr : Nat → Value} {H : Heap} {R : Value → Heap → Prop}

theorem Ret.succ {k k1 : List AItem} {fr fr1 : Nat → Value} {H H1 : Heap} (h : ∀ n, aRun E (n + 1) af lim k fr H = aRun E n af lim k1 fr1 H1) : Ret E af lim k fr H R = Ret E af lim k1 fr1 H1 R := by
  apply propext
  constructor
  · rintro ⟨n, v, H', hx, hr⟩
    cases n with
    | zero => simp [aRun] at hx
    | succ n => rw [h] at hx; exact ⟨n, v, H', hx, hr⟩
  · rintro ⟨n, v, H', hx, hr⟩
    exact ⟨n + 1, v, H', by rw [h]; exact hx, hr⟩
theorem Ret_fin {k : List AItem} (h : ∀ n, aRun E (n + 1) af lim k fr H = (result fr H af.results).map (·, H)) : Ret E af lim k fr H R = opK ((result fr H af.results).map (·, H)) R := by
  apply propext
  constructor
  · rintro ⟨n, v, H', hx, hr⟩
    cases n with
    | zero => simp [aRun] at hx
    | succ n => rw [h] at hx; rw [hx]; exact hr
  · intro hk
    cases hx : (result fr H af.results).map (·, H) with
    | none => rw [hx] at hk; exact hk.elim
    | some p => rw [hx] at hk; exact ⟨1, p.1, p.2, by rw [h, hx], hk⟩

theorem Ret_seq {a b} : Ret E af lim (.code (.seq a b) :: K) fr H R = Ret E af lim (.code a :: .code b :: K) fr H R := Ret.succ fun n => by rw [aRun.eq_def]
theorem Ret_skip : Ret E af lim (.code .skip :: K) fr H R = Ret E af lim K fr H R := Ret.succ fun n => by rw [aRun.eq_def]
theorem Ret_cops {l} : Ret E af lim (.code (.ops l) :: K) fr H R = Ret E af lim (.ops none l :: K) fr H R := Ret.succ fun n => by rw [aRun.eq_def]
theorem Ret_drawn {m l} : Ret E af lim (.code (.drawn m l) :: K) fr H R = Ret E af lim (.ops (some H.length) l :: K) fr (H ++ List.replicate m .dead) R := Ret.succ fun n => by rw [aRun.eq_def]
theorem Ret_ret : Ret E af lim (.code .ret :: K) fr H R = opK ((result fr H af.results).map (·, H)) R := Ret_fin fun n => by rw [aRun.eq_def]
theorem Ret_nil : Ret E af lim [] fr H R = opK ((result fr H af.results).map (·, H)) R := Ret_fin fun n => by rw [aRun.eq_def]
theorem Ret_block {id b} : Ret E af lim (.code (.block id b) :: K) fr H R = Ret E af lim (.code b :: .inBlock id :: K) fr H R := Ret.succ fun n => by rw [aRun.eq_def]
theorem Ret_inBlock {id} : Ret E af lim (.inBlock id :: K) fr H R = Ret E af lim K fr H R := Ret.succ fun n => by rw [aRun.eq_def]
theorem Ret_loop {b} : Ret E af lim (.code (.loop b) :: K) fr H R = Ret E af lim (.code b :: .inLoop b :: K) fr H R := Ret.succ fun n => by rw [aRun.eq_def]
theorem Ret_inLoop {b} : Ret E af lim (.inLoop b :: K) fr H R = Ret E af lim (.code b :: .inLoop b :: K) fr H R := Ret.succ fun n => by rw [aRun.eq_def]
theorem Ret_ops_nil {b} : Ret E af lim (.ops b [] :: K) fr H R = Ret E af lim K fr H R := Ret.succ fun n => by rw [aRun.eq_def]
theorem Ret_exit {id K'} (h : aExit id K = some K') : Ret E af lim (.code (.exit id) :: K) fr H R = Ret E af lim K' fr H R := Ret.succ fun n => by rw [aRun.eq_def]; simp only [h]
theorem aExit_here {id : Nat} {K : List AItem} : aExit id (.inBlock id :: K) = some K := by simp [aExit]
theorem aExit_other {id id' : Nat} {K : List AItem} (h : id' ≠ id) : aExit id (.inBlock id' :: K) = aExit id K := by simp [aExit, h]
theorem aExit_code {id : Nat} {c} {K : List AItem} : aExit id (.code c :: K) = aExit id K := by simp [aExit]
theorem aExit_loop {id : Nat} {c} {K : List AItem} : aExit id (.inLoop c :: K) = aExit id K := by simp [aExit]
theorem Ret_cond {c a b} : Ret E af lim (.code (.cond c a b) :: K) fr H R = condK (ev fr c) (Ret E af lim (.code a :: K) fr H R) (Ret E af lim (.code b :: K) fr H R) := by
  cases hc : ev fr c with
  | bool t => cases t <;> exact Ret.succ fun n => by rw [aRun.eq_def]; simp only [hc]
  | _ =>
    apply propext
    constructor
    · rintro ⟨n, v, H', hx, hr⟩
      cases n with
      | zero => simp [aRun] at hx
      | succ n => rw [aRun.eq_def] at hx; simp only [hc] at hx; cases hx
    · intro h; exact h.elim

theorem Ret.det {k : List AItem} {n m : Nat} {r r' : Value × Heap} (h : aRun E n af lim k fr H = some r) (h' : aRun E m af lim k fr H = some r') : r = r' := by
  have h1 := aRun_le E (Nat.le_max_left n m) h
  have h2 := aRun_le E (Nat.le_max_right n m) h'
  rw [h1] at h2; exact Option.some.inj h2

def isCall : AOp → Bool
  | .call .. => true
  | _ => false
def dOk (N : Nat) : Option Nat → Bool
  | none => true
  | some d => decide (d < N)
def putF (d : Option Nat) (fr : Nat → Value) (v : Value) : Nat → Value := match d with | none => fr | some d => upd fr d v
def gK (N : Nat) (fr : Nat → Value) (g : Option (Nat × Bool)) (p q : Prop) (_ : Bx p := ⟨⟩) (_ : Bx q := ⟨⟩) : Prop := match wantedA N fr g with | none => False | some true => p | some false => q
/-- What an operation comes to. -/
def oK (E : Env) (lim : Nat) (base : Option Nat) (dest : Option Nat) (mask : List Nat) (o : AOp) (fr : Nat → Value) (H : Heap) (Q : Value → Heap → Prop) (_ : Bx Q := ⟨⟩) : Prop :=
  match base with
  | none => ∃ n v H', stepOp (aCall E n) lim none o (ev fr) H = some (v, H') ∧ Q v H'
  | some b => ∃ n v H', stepOp (aCall E n) lim (dest.map (b + ·)) o (ev fr) (maskH b mask H) = some (v, H') ∧ Q v (unmaskH b mask H H')

theorem putD_ok {N : Nat} {d : Option Nat} (h : dOk N d = true) (v : Value) : putD N fr d v = some (putF d fr v) := by
  cases d with
  | none => rfl
  | some d => simp [dOk] at h; simp [putD, putF, h]

theorem Ret_cons {base : Option Nat} {x : AIns} {l : List AIns} : Ret E af lim (.ops base (x :: l) :: K) fr H R = ∃ n, ∃ fr' H', insOp (aCall E n) af.ntmps lim base x fr H = some (fr', H') ∧ Ret E af lim (.ops base l :: K) fr' H' R := by
  apply propext
  constructor
  · rintro ⟨n, v, H', hx, hr⟩
    cases n with
    | zero => simp [aRun] at hx
    | succ n =>
      rw [aRun.eq_def] at hx
      simp only at hx
      split at hx
      · rename_i fr' H1 h1
        exact ⟨n, fr', H1, h1, n, v, H', hx, hr⟩
      · cases hx
  · rintro ⟨n, fr', H1, h1, m, v, H', hx, hr⟩
    refine ⟨max n m + 1, v, H', ?_, hr⟩
    rw [aRun.eq_def]
    simp only
    have e : insOp (callWith E fun af' lim' as H' => aRun E (max n m) af' lim' [.code af'.body] (frame0 as) H') af.ntmps lim base x fr H = some (fr', H1) := insOp_mono (aCall_le E (Nat.le_max_left n m)) h1
    rw [e]
    exact aRun_le E (Nat.le_max_right n m) hx

theorem Ret_i {base d g o dest mask l} (hd : dOk af.ntmps d = true) : Ret E af lim (.ops base (⟨d, g, o, dest, mask⟩ :: l) :: K) fr H R =
    gK af.ntmps fr g (oK E lim base dest mask o fr H fun v H' => Ret E af lim (.ops base l :: K) (putF d fr v) H' R) (Ret E af lim (.ops base l :: K) (putF d fr undef) H R) := by
  rw [Ret_cons]
  unfold gK insOp insVal
  simp only
  cases hw : wantedA af.ntmps fr g with
  | none => simp
  | some t =>
    cases t with
    | false =>
      simp only [Option.map_eq_some_iff, Prod.mk.injEq, putD_ok hd]
      apply propext
      constructor
      · rintro ⟨n, fr', H', ⟨f, h1, h2, h3⟩, h4⟩
        cases h1; subst h2 h3; exact h4
      · intro h
        exact ⟨0, _, _, ⟨_, rfl, rfl, rfl⟩, h⟩
    | true =>
      cases base with
      | none =>
        simp only [oK]
        apply propext
        constructor
        · rintro ⟨n, fr', H', h1, h4⟩
          split at h1
          · rename_i v H1 h5
            rw [putD_ok hd] at h1
            simp only [Option.map_some, Option.some.injEq, Prod.mk.injEq] at h1
            obtain ⟨rfl, rfl⟩ := h1
            exact ⟨n, v, H1, h5, h4⟩
          · cases h1
        · rintro ⟨n, v, H', h1, h4⟩
          refine ⟨n, _, _, ?_, h4⟩
          rw [h1]
          simp only [putD_ok hd, Option.map_some]
      | some b =>
        simp only [oK]
        apply propext
        constructor
        · rintro ⟨n, fr', H', h1, h4⟩
          split at h1
          · rename_i v H1 h5
            split at h5
            · rename_i v' H2 h6
              cases h5
              rw [putD_ok hd] at h1
              simp only [Option.map_some, Option.some.injEq, Prod.mk.injEq] at h1
              obtain ⟨rfl, rfl⟩ := h1
              exact ⟨n, v, H2, h6, h4⟩
            · cases h5
          · cases h1
        · rintro ⟨n, v, H', h1, h4⟩
          refine ⟨n, _, _, ?_, h4⟩
          rw [h1]
          simp only [putD_ok hd, Option.map_some]

theorem gK_none {N : Nat} {p q : Prop} : gK N fr none p q = p := rfl
theorem gK_some {N g : Nat} {b : Bool} {p q : Prop} (h : g < N) : gK N fr (some (g, b)) p q = wantK (fr g) b p q := by
  unfold gK wantedA wantK
  simp only [h, if_true]
  cases fr g <;> simp
  rename_i c
  cases c <;> cases b <;> simp

variable {base dest : Option Nat} {mask : List Nat} {o : AOp} {Q : Value → Heap → Prop}
theorem stepOp_no {C : CallF} {ρ : Operand → Value} (h : isCall o = false) : stepOp C lim dest o ρ H = aOp lim dest o ρ H := by
  cases o <;> first | rfl | (simp [isCall] at h)
theorem oK_none (h : isCall o = false) : oK E lim none dest mask o fr H Q = opK (aOp lim none o (ev fr) H) Q := by
  unfold oK opK
  simp only [stepOp_no h]
  cases aOp lim none o (ev fr) H with
  | none => simp
  | some p => exact propext ⟨by rintro ⟨_, _, _, h, q⟩; cases h; exact q, fun q => ⟨0, _, _, rfl, q⟩⟩
theorem oK_some {b : Nat} (h : isCall o = false) : oK E lim (some b) dest mask o fr H Q = opK (aOp lim (dest.map (b + ·)) o (ev fr) (maskH b mask H)) fun v H' => Q v (unmaskH b mask H H') := by
  unfold oK opK
  simp only [stepOp_no h]
  cases aOp lim (dest.map (b + ·)) o (ev fr) (maskH b mask H) with
  | none => simp
  | some p => exact propext ⟨by rintro ⟨_, _, _, h, q⟩; cases h; exact q, fun q => ⟨0, _, _, rfl, q⟩⟩
def calK (c : Option (FuncId × List Value)) (f : FuncId → List Value → Prop) (_ : Bx f := ⟨⟩) : Prop := match c with | some (g, as) => f g as | none => False
theorem calK_some {g : FuncId} {as : List Value} {f : FuncId → List Value → Prop} : calK (some (g, as)) f = f g as := rfl
theorem oK_call {mp : Bool} {f : Operand} {args : List Operand} : oK E lim none dest mask (.call mp f args) fr H Q = calK (callee (ev fr f) (args.map (ev fr))) fun g as => CallR E mp lim g as H Q := by
  unfold oK calK stepOp CallR
  simp only
  cases callee (ev fr f) (args.map (ev fr)) with
  | none => simp
  | some p => obtain ⟨g, as⟩ := p; rfl
theorem oK_callB {b : Nat} {mp : Bool} {f : Operand} {args : List Operand} : oK E lim (some b) dest mask (.call mp f args) fr H Q = calK (callee (ev fr f) (args.map (ev fr))) fun g as => CallR E mp lim g as (maskH b mask H) fun v H' => Q v (unmaskH b mask H H') := by
  unfold oK calK stepOp CallR
  simp only
  cases callee (ev fr f) (args.map (ev fr)) with
  | none => simp
  | some p => obtain ⟨g, as⟩ := p; rfl

theorem CallR.det {mp : Bool} {g : FuncId} {as : List Value} {n : Nat} {v : Value} {H' : Heap} (h : aCall E n mp lim g as H = some (v, H')) : CallR E mp lim g as H Q = Q v H' := by
  apply propext
  constructor
  · rintro ⟨m, v', H1, h1, h2⟩
    have e1 := aCall_le E (Nat.le_max_left n m) _ _ _ _ _ _ h
    have e2 := aCall_le E (Nat.le_max_right n m) _ _ _ _ _ _ h1
    rw [e1] at e2; cases e2; exact h2
  · exact fun hq => ⟨n, v, H', h, hq⟩

/-- What a function that is taken as pure comes to. -/
theorem CallR_pure {mp : Bool} {g : FuncId} {as : List Value} {v : Value} (ho : E.orc g as = none) (ht : E.tr g = some af) (hp : E.pure g = true) (hf : flat 4 v = true) (h : Ret E af H.length [.code af.body] (frame0 as) H fun v' _ => v' = v) : CallR E mp lim g as H Q = Q v H := by
  obtain ⟨n, v', H', h1, rfl⟩ := h
  exact CallR.det (n := n) (by unfold aCall callWith; simp only [ho, ht, hp, if_true, h1, hf])
theorem CallR_orc {mp : Bool} {g : FuncId} {as : List Value} {v : Value} (ho : E.orc g as = some v) (ha : as.all atom = true) (hf : flat 4 v = true) : CallR E mp lim g as H Q = Q v H :=
  CallR.det (n := 0) (by unfold aCall callWith; simp only [ho, ha, hf, Bool.and_self, if_true])
/-- What any other function comes to: its run. -/
theorem CallR_run {mp : Bool} {g : FuncId} {as : List Value} (ho : E.orc g as = none) (ht : E.tr g = some af) (hp : E.pure g = false) (hm : mp = false) : CallR E mp lim g as H Q = Ret E af lim [.code af.body] (frame0 as) H Q := by
  unfold CallR Ret aCall callWith
  simp only [ho, ht, hp, hm, Bool.false_eq_true, if_false]
end

section
variable {E : Env} {af : AFunc} {lim : Nat} {K : List AItem} {fr fr' : Nat → Value} {H H' : Heap} {R : Value → Heap → Prop}
theorem Ret_congr {k : List AItem} (h1 : fr = fr') (h2 : H = H') : Ret E af lim k fr H R = Ret E af lim k fr' H' R := by rw [h1, h2]
theorem CallR_congr {mp : Bool} {g : FuncId} {as as' : List Value} (h1 : as = as') (h2 : H = H') : CallR E mp lim g as H R = CallR E mp lim g as' H' R := by rw [h1, h2]
theorem opK_congr {r r' : Option (Value × Heap)} {f : Value → Heap → Prop} (h : r = r') : opK r f = opK r' f := by rw [h]
theorem opK_some {v : Value} {f : Value → Heap → Prop} : opK (some (v, H)) f = f v H := rfl
theorem opK_none {f : Value → Heap → Prop} : opK none f = False := rfl
theorem condK_congr {v v' : Value} {p q : Prop} (h : v = v') : condK v p q = condK v' p q := by rw [h]
theorem condK_bool {b : Bool} {p q : Prop} : condK (.bool b) p q = if b = true then p else q := by cases b <;> simp [condK]
theorem wantK_congr {v v' : Value} {b : Bool} {p q : Prop} (h : v = v') : wantK v b p q = wantK v' b p q := by rw [h]
theorem wantK_t {c : Bool} {p q : Prop} : wantK (.bool c) true p q = if c = true then p else q := rfl
theorem wantK_f {c : Bool} {p q : Prop} : wantK (.bool c) false p q = if c = true then q else p := by cases c <;> simp [wantK]
theorem calK_congr {c c' : Option (FuncId × List Value)} {f : FuncId → List Value → Prop} (h : c = c') : calK c f = calK c' f := by rw [h]
theorem gK_congr {N N' : Nat} {g : Option (Nat × Bool)} {p q : Prop} (h : N = N') : gK N fr g p q = gK N' fr g p q := by rw [h]
theorem oK_congr {base dest : Option Nat} {mask : List Nat} {o : AOp} {Q : Value → Heap → Prop} (h : H = H') : oK E lim base dest mask o fr H Q = oK E lim base dest mask o fr H' Q := by rw [h]

theorem upd_same {d : Nat} {v : Value} : upd fr d v d = v := by simp [upd]
theorem upd_ne {d t : Nat} {v : Value} (h : t ≠ d) : upd fr d v t = fr t := by simp [upd, h]
theorem ev_tmp {t : Nat} : ev fr (.tmp t) = fr t := rfl
theorem ev_const {v : Value} : ev fr (.const v) = v := rfl
theorem ev_func {f : FuncId} : ev fr (.func f) = .func (.func f) #[] #[] := rfl
theorem result1 {x : Nat} : result fr H [.tmp x] = some (fr x) := rfl
theorem hget_old {X : Heap} {j : Nat} (h : j < H.length) : hget (H ++ X) j = hget H j := by
  unfold hget; rw [List.getD_eq_getElem?_getD, List.getD_eq_getElem?_getD, List.getElem?_append_left h]
theorem hget_new {X : Heap} {j : Nat} : hget (H ++ X) (H.length + j) = X.getD j .dead := by
  unfold hget; rw [List.getD_eq_getElem?_getD, List.getD_eq_getElem?_getD, List.getElem?_append_right (by omega)]; simp
theorem hget_new0 {X : Heap} : hget (H ++ X) H.length = X.getD 0 .dead := hget_new (j := 0)
theorem set_new {X : Heap} {j : Nat} {b : Blk} : (H ++ X).set (H.length + j) b = H ++ X.set j b := by
  rw [List.set_append_right _ _ (by omega)]; simp
theorem set_new0 {X : Heap} {b : Blk} : (H ++ X).set H.length b = H ++ X.set 0 b := set_new (j := 0)
theorem mask_nil {b : Nat} : maskH b [] H = H := rfl
theorem unmask_nil {b : Nat} {H0 : Heap} : unmaskH b [] H0 H = H := rfl
end
section
variable {E : Env} {lim b : Nat} {dest : Option Nat} {mask : List Nat} {fr : Nat → Value} {H : Heap} {Q : Value → Heap → Prop}
theorem on_mov {qx : Operand} : oK E lim none dest mask (.mov qx) fr H Q = opK (aOp lim none (.mov qx) (ev fr) H) Q := oK_none rfl
theorem ob_mov {qx : Operand} : oK E lim (some b) dest mask (.mov qx) fr H Q = opK (aOp lim (dest.map (b + ·)) (.mov qx) (ev fr) (maskH b mask H)) fun v H' => Q v (unmaskH b mask H H') := oK_some rfl
theorem on_pick {qc qa qb : Operand} : oK E lim none dest mask (.pick qc qa qb) fr H Q = opK (aOp lim none (.pick qc qa qb) (ev fr) H) Q := oK_none rfl
theorem ob_pick {qc qa qb : Operand} : oK E lim (some b) dest mask (.pick qc qa qb) fr H Q = opK (aOp lim (dest.map (b + ·)) (.pick qc qa qb) (ev fr) (maskH b mask H)) fun v H' => Q v (unmaskH b mask H H') := oK_some rfl
theorem on_bin {qop : BinOp} {qx qy : Operand} : oK E lim none dest mask (.bin qop qx qy) fr H Q = opK (aOp lim none (.bin qop qx qy) (ev fr) H) Q := oK_none rfl
theorem ob_bin {qop : BinOp} {qx qy : Operand} : oK E lim (some b) dest mask (.bin qop qx qy) fr H Q = opK (aOp lim (dest.map (b + ·)) (.bin qop qx qy) (ev fr) (maskH b mask H)) fun v H' => Q v (unmaskH b mask H H') := oK_some rfl
theorem on_eqv {qneg : Bool} {qk : EqKind} {qx qy : Operand} : oK E lim none dest mask (.eqv qneg qk qx qy) fr H Q = opK (aOp lim none (.eqv qneg qk qx qy) (ev fr) H) Q := oK_none rfl
theorem ob_eqv {qneg : Bool} {qk : EqKind} {qx qy : Operand} : oK E lim (some b) dest mask (.eqv qneg qk qx qy) fr H Q = opK (aOp lim (dest.map (b + ·)) (.eqv qneg qk qx qy) (ev fr) (maskH b mask H)) fun v H' => Q v (unmaskH b mask H H') := oK_some rfl
theorem on_un {qop : UnOp} {qx : Operand} : oK E lim none dest mask (.un qop qx) fr H Q = opK (aOp lim none (.un qop qx) (ev fr) H) Q := oK_none rfl
theorem ob_un {qop : UnOp} {qx : Operand} : oK E lim (some b) dest mask (.un qop qx) fr H Q = opK (aOp lim (dest.map (b + ·)) (.un qop qx) (ev fr) (maskH b mask H)) fun v H' => Q v (unmaskH b mask H H') := oK_some rfl
theorem on_conv {qk : IntKind} {qx : Operand} : oK E lim none dest mask (.conv qk qx) fr H Q = opK (aOp lim none (.conv qk qx) (ev fr) H) Q := oK_none rfl
theorem ob_conv {qk : IntKind} {qx : Operand} : oK E lim (some b) dest mask (.conv qk qx) fr H Q = opK (aOp lim (dest.map (b + ·)) (.conv qk qx) (ev fr) (maskH b mask H)) fun v H' => Q v (unmaskH b mask H H') := oK_some rfl
theorem on_alloc {qzero : List Value} : oK E lim none dest mask (.alloc qzero) fr H Q = opK (aOp lim none (.alloc qzero) (ev fr) H) Q := oK_none rfl
theorem ob_alloc {qzero : List Value} : oK E lim (some b) dest mask (.alloc qzero) fr H Q = opK (aOp lim (dest.map (b + ·)) (.alloc qzero) (ev fr) (maskH b mask H)) fun v H' => Q v (unmaskH b mask H H') := oK_some rfl
theorem on_box {qx : Operand} : oK E lim none dest mask (.box qx) fr H Q = opK (aOp lim none (.box qx) (ev fr) H) Q := oK_none rfl
theorem ob_box {qx : Operand} : oK E lim (some b) dest mask (.box qx) fr H Q = opK (aOp lim (dest.map (b + ·)) (.box qx) (ev fr) (maskH b mask H)) fun v H' => Q v (unmaskH b mask H H') := oK_some rfl
theorem on_build {qzero : List Value} {qparts : List (Nat × Nat × Operand)} : oK E lim none dest mask (.build qzero qparts) fr H Q = opK (aOp lim none (.build qzero qparts) (ev fr) H) Q := oK_none rfl
theorem ob_build {qzero : List Value} {qparts : List (Nat × Nat × Operand)} : oK E lim (some b) dest mask (.build qzero qparts) fr H Q = opK (aOp lim (dest.map (b + ·)) (.build qzero qparts) (ev fr) (maskH b mask H)) fun v H' => Q v (unmaskH b mask H H') := oK_some rfl
theorem on_buildSlice {qlen : Nat} {qzero : List Value} {qparts : List (Nat × Nat × Operand)} : oK E lim none dest mask (.buildSlice qlen qzero qparts) fr H Q = opK (aOp lim none (.buildSlice qlen qzero qparts) (ev fr) H) Q := oK_none rfl
theorem ob_buildSlice {qlen : Nat} {qzero : List Value} {qparts : List (Nat × Nat × Operand)} : oK E lim (some b) dest mask (.buildSlice qlen qzero qparts) fr H Q = opK (aOp lim (dest.map (b + ·)) (.buildSlice qlen qzero qparts) (ev fr) (maskH b mask H)) fun v H' => Q v (unmaskH b mask H H') := oK_some rfl
theorem on_load1 {qa : Operand} : oK E lim none dest mask (.load1 qa) fr H Q = opK (aOp lim none (.load1 qa) (ev fr) H) Q := oK_none rfl
theorem ob_load1 {qa : Operand} : oK E lim (some b) dest mask (.load1 qa) fr H Q = opK (aOp lim (dest.map (b + ·)) (.load1 qa) (ev fr) (maskH b mask H)) fun v H' => Q v (unmaskH b mask H H') := oK_some rfl
theorem on_loadN {qn : Nat} {qa : Operand} : oK E lim none dest mask (.loadN qn qa) fr H Q = opK (aOp lim none (.loadN qn qa) (ev fr) H) Q := oK_none rfl
theorem ob_loadN {qn : Nat} {qa : Operand} : oK E lim (some b) dest mask (.loadN qn qa) fr H Q = opK (aOp lim (dest.map (b + ·)) (.loadN qn qa) (ev fr) (maskH b mask H)) fun v H' => Q v (unmaskH b mask H H') := oK_some rfl
theorem on_store {qn : Nat} {qa qx : Operand} : oK E lim none dest mask (.store qn qa qx) fr H Q = opK (aOp lim none (.store qn qa qx) (ev fr) H) Q := oK_none rfl
theorem ob_store {qn : Nat} {qa qx : Operand} : oK E lim (some b) dest mask (.store qn qa qx) fr H Q = opK (aOp lim (dest.map (b + ·)) (.store qn qa qx) (ev fr) (maskH b mask H)) fun v H' => Q v (unmaskH b mask H H') := oK_some rfl
theorem on_nilCheck {qx : Operand} : oK E lim none dest mask (.nilCheck qx) fr H Q = opK (aOp lim none (.nilCheck qx) (ev fr) H) Q := oK_none rfl
theorem ob_nilCheck {qx : Operand} : oK E lim (some b) dest mask (.nilCheck qx) fr H Q = opK (aOp lim (dest.map (b + ·)) (.nilCheck qx) (ev fr) (maskH b mask H)) fun v H' => Q v (unmaskH b mask H H') := oK_some rfl
theorem on_fieldAddr {qoff : Nat} {qa : Operand} : oK E lim none dest mask (.fieldAddr qoff qa) fr H Q = opK (aOp lim none (.fieldAddr qoff qa) (ev fr) H) Q := oK_none rfl
theorem ob_fieldAddr {qoff : Nat} {qa : Operand} : oK E lim (some b) dest mask (.fieldAddr qoff qa) fr H Q = opK (aOp lim (dest.map (b + ·)) (.fieldAddr qoff qa) (ev fr) (maskH b mask H)) fun v H' => Q v (unmaskH b mask H H') := oK_some rfl
theorem on_field1 {qoff : Nat} {qx : Operand} : oK E lim none dest mask (.field1 qoff qx) fr H Q = opK (aOp lim none (.field1 qoff qx) (ev fr) H) Q := oK_none rfl
theorem ob_field1 {qoff : Nat} {qx : Operand} : oK E lim (some b) dest mask (.field1 qoff qx) fr H Q = opK (aOp lim (dest.map (b + ·)) (.field1 qoff qx) (ev fr) (maskH b mask H)) fun v H' => Q v (unmaskH b mask H H') := oK_some rfl
theorem on_fieldN {qoff qn : Nat} {qx : Operand} : oK E lim none dest mask (.fieldN qoff qn qx) fr H Q = opK (aOp lim none (.fieldN qoff qn qx) (ev fr) H) Q := oK_none rfl
theorem ob_fieldN {qoff qn : Nat} {qx : Operand} : oK E lim (some b) dest mask (.fieldN qoff qn qx) fr H Q = opK (aOp lim (dest.map (b + ·)) (.fieldN qoff qn qx) (ev fr) (maskH b mask H)) fun v H' => Q v (unmaskH b mask H H') := oK_some rfl
theorem on_idxAddrA {qlen qesz : Nat} {qx qi : Operand} : oK E lim none dest mask (.idxAddrA qlen qesz qx qi) fr H Q = opK (aOp lim none (.idxAddrA qlen qesz qx qi) (ev fr) H) Q := oK_none rfl
theorem ob_idxAddrA {qlen qesz : Nat} {qx qi : Operand} : oK E lim (some b) dest mask (.idxAddrA qlen qesz qx qi) fr H Q = opK (aOp lim (dest.map (b + ·)) (.idxAddrA qlen qesz qx qi) (ev fr) (maskH b mask H)) fun v H' => Q v (unmaskH b mask H H') := oK_some rfl
theorem on_idxA {qlen qesz : Nat} {qagg : Bool} {qx qi : Operand} : oK E lim none dest mask (.idxA qlen qesz qagg qx qi) fr H Q = opK (aOp lim none (.idxA qlen qesz qagg qx qi) (ev fr) H) Q := oK_none rfl
theorem ob_idxA {qlen qesz : Nat} {qagg : Bool} {qx qi : Operand} : oK E lim (some b) dest mask (.idxA qlen qesz qagg qx qi) fr H Q = opK (aOp lim (dest.map (b + ·)) (.idxA qlen qesz qagg qx qi) (ev fr) (maskH b mask H)) fun v H' => Q v (unmaskH b mask H H') := oK_some rfl
theorem on_idxStr {qx qi : Operand} : oK E lim none dest mask (.idxStr qx qi) fr H Q = opK (aOp lim none (.idxStr qx qi) (ev fr) H) Q := oK_none rfl
theorem ob_idxStr {qx qi : Operand} : oK E lim (some b) dest mask (.idxStr qx qi) fr H Q = opK (aOp lim (dest.map (b + ·)) (.idxStr qx qi) (ev fr) (maskH b mask H)) fun v H' => Q v (unmaskH b mask H H') := oK_some rfl
theorem on_sliceS {qesz : Nat} {qx : Operand} {qlo qhi qmx : Option Operand} : oK E lim none dest mask (.sliceS qesz qx qlo qhi qmx) fr H Q = opK (aOp lim none (.sliceS qesz qx qlo qhi qmx) (ev fr) H) Q := oK_none rfl
theorem ob_sliceS {qesz : Nat} {qx : Operand} {qlo qhi qmx : Option Operand} : oK E lim (some b) dest mask (.sliceS qesz qx qlo qhi qmx) fr H Q = opK (aOp lim (dest.map (b + ·)) (.sliceS qesz qx qlo qhi qmx) (ev fr) (maskH b mask H)) fun v H' => Q v (unmaskH b mask H H') := oK_some rfl
theorem on_sliceA {qn qesz : Nat} {qx : Operand} {qlo qhi qmx : Option Operand} : oK E lim none dest mask (.sliceA qn qesz qx qlo qhi qmx) fr H Q = opK (aOp lim none (.sliceA qn qesz qx qlo qhi qmx) (ev fr) H) Q := oK_none rfl
theorem ob_sliceA {qn qesz : Nat} {qx : Operand} {qlo qhi qmx : Option Operand} : oK E lim (some b) dest mask (.sliceA qn qesz qx qlo qhi qmx) fr H Q = opK (aOp lim (dest.map (b + ·)) (.sliceA qn qesz qx qlo qhi qmx) (ev fr) (maskH b mask H)) fun v H' => Q v (unmaskH b mask H H') := oK_some rfl
theorem on_sliceStr {qx : Operand} {qlo qhi : Option Operand} : oK E lim none dest mask (.sliceStr qx qlo qhi) fr H Q = opK (aOp lim none (.sliceStr qx qlo qhi) (ev fr) H) Q := oK_none rfl
theorem ob_sliceStr {qx : Operand} {qlo qhi : Option Operand} : oK E lim (some b) dest mask (.sliceStr qx qlo qhi) fr H Q = opK (aOp lim (dest.map (b + ·)) (.sliceStr qx qlo qhi) (ev fr) (maskH b mask H)) fun v H' => Q v (unmaskH b mask H H') := oK_some rfl
theorem on_lenStr {qx : Operand} : oK E lim none dest mask (.lenStr qx) fr H Q = opK (aOp lim none (.lenStr qx) (ev fr) H) Q := oK_none rfl
theorem ob_lenStr {qx : Operand} : oK E lim (some b) dest mask (.lenStr qx) fr H Q = opK (aOp lim (dest.map (b + ·)) (.lenStr qx) (ev fr) (maskH b mask H)) fun v H' => Q v (unmaskH b mask H H') := oK_some rfl
theorem on_lenSlice {qx : Operand} : oK E lim none dest mask (.lenSlice qx) fr H Q = opK (aOp lim none (.lenSlice qx) (ev fr) H) Q := oK_none rfl
theorem ob_lenSlice {qx : Operand} : oK E lim (some b) dest mask (.lenSlice qx) fr H Q = opK (aOp lim (dest.map (b + ·)) (.lenSlice qx) (ev fr) (maskH b mask H)) fun v H' => Q v (unmaskH b mask H H') := oK_some rfl
theorem on_lenMap {qx : Operand} : oK E lim none dest mask (.lenMap qx) fr H Q = opK (aOp lim none (.lenMap qx) (ev fr) H) Q := oK_none rfl
theorem ob_lenMap {qx : Operand} : oK E lim (some b) dest mask (.lenMap qx) fr H Q = opK (aOp lim (dest.map (b + ·)) (.lenMap qx) (ev fr) (maskH b mask H)) fun v H' => Q v (unmaskH b mask H H') := oK_some rfl
theorem on_lenK {qn : Nat} : oK E lim none dest mask (.lenK qn) fr H Q = opK (aOp lim none (.lenK qn) (ev fr) H) Q := oK_none rfl
theorem ob_lenK {qn : Nat} : oK E lim (some b) dest mask (.lenK qn) fr H Q = opK (aOp lim (dest.map (b + ·)) (.lenK qn) (ev fr) (maskH b mask H)) fun v H' => Q v (unmaskH b mask H H') := oK_some rfl
theorem on_append {qesz qbytes : Nat} {qstr : Bool} {qs qx : Operand} : oK E lim none dest mask (.append qesz qbytes qstr qs qx) fr H Q = opK (aOp lim none (.append qesz qbytes qstr qs qx) (ev fr) H) Q := oK_none rfl
theorem ob_append {qesz qbytes : Nat} {qstr : Bool} {qs qx : Operand} : oK E lim (some b) dest mask (.append qesz qbytes qstr qs qx) fr H Q = opK (aOp lim (dest.map (b + ·)) (.append qesz qbytes qstr qs qx) (ev fr) (maskH b mask H)) fun v H' => Q v (unmaskH b mask H H') := oK_some rfl
theorem on_copy {qesz : Nat} {qd qx : Operand} : oK E lim none dest mask (.copy qesz qd qx) fr H Q = opK (aOp lim none (.copy qesz qd qx) (ev fr) H) Q := oK_none rfl
theorem ob_copy {qesz : Nat} {qd qx : Operand} : oK E lim (some b) dest mask (.copy qesz qd qx) fr H Q = opK (aOp lim (dest.map (b + ·)) (.copy qesz qd qx) (ev fr) (maskH b mask H)) fun v H' => Q v (unmaskH b mask H H') := oK_some rfl
theorem on_minmax {qmx : Bool} {qxs : List Operand} : oK E lim none dest mask (.minmax qmx qxs) fr H Q = opK (aOp lim none (.minmax qmx qxs) (ev fr) H) Q := oK_none rfl
theorem ob_minmax {qmx : Bool} {qxs : List Operand} : oK E lim (some b) dest mask (.minmax qmx qxs) fr H Q = opK (aOp lim (dest.map (b + ·)) (.minmax qmx qxs) (ev fr) (maskH b mask H)) fun v H' => Q v (unmaskH b mask H H') := oK_some rfl
theorem on_makeSlice {qesz qbytes : Nat} {qzero : List Value} {qlen qcap : Operand} : oK E lim none dest mask (.makeSlice qesz qbytes qzero qlen qcap) fr H Q = opK (aOp lim none (.makeSlice qesz qbytes qzero qlen qcap) (ev fr) H) Q := oK_none rfl
theorem ob_makeSlice {qesz qbytes : Nat} {qzero : List Value} {qlen qcap : Operand} : oK E lim (some b) dest mask (.makeSlice qesz qbytes qzero qlen qcap) fr H Q = opK (aOp lim (dest.map (b + ·)) (.makeSlice qesz qbytes qzero qlen qcap) (ev fr) (maskH b mask H)) fun v H' => Q v (unmaskH b mask H H') := oK_some rfl
theorem on_makeMap {qhint : Option Operand} : oK E lim none dest mask (.makeMap qhint) fr H Q = opK (aOp lim none (.makeMap qhint) (ev fr) H) Q := oK_none rfl
theorem ob_makeMap {qhint : Option Operand} : oK E lim (some b) dest mask (.makeMap qhint) fr H Q = opK (aOp lim (dest.map (b + ·)) (.makeMap qhint) (ev fr) (maskH b mask H)) fun v H' => Q v (unmaskH b mask H H') := oK_some rfl
theorem on_lookup {qkk : KK} {qzero : Value} {qok : Bool} {qm qkey : Operand} : oK E lim none dest mask (.lookup qkk qzero qok qm qkey) fr H Q = opK (aOp lim none (.lookup qkk qzero qok qm qkey) (ev fr) H) Q := oK_none rfl
theorem ob_lookup {qkk : KK} {qzero : Value} {qok : Bool} {qm qkey : Operand} : oK E lim (some b) dest mask (.lookup qkk qzero qok qm qkey) fr H Q = opK (aOp lim (dest.map (b + ·)) (.lookup qkk qzero qok qm qkey) (ev fr) (maskH b mask H)) fun v H' => Q v (unmaskH b mask H H') := oK_some rfl
theorem on_mapUpdate {qkk : KK} {qm qkey qv : Operand} : oK E lim none dest mask (.mapUpdate qkk qm qkey qv) fr H Q = opK (aOp lim none (.mapUpdate qkk qm qkey qv) (ev fr) H) Q := oK_none rfl
theorem ob_mapUpdate {qkk : KK} {qm qkey qv : Operand} : oK E lim (some b) dest mask (.mapUpdate qkk qm qkey qv) fr H Q = opK (aOp lim (dest.map (b + ·)) (.mapUpdate qkk qm qkey qv) (ev fr) (maskH b mask H)) fun v H' => Q v (unmaskH b mask H H') := oK_some rfl
theorem on_delete {qkk : KK} {qm qkey : Operand} : oK E lim none dest mask (.delete qkk qm qkey) fr H Q = opK (aOp lim none (.delete qkk qm qkey) (ev fr) H) Q := oK_none rfl
theorem ob_delete {qkk : KK} {qm qkey : Operand} : oK E lim (some b) dest mask (.delete qkk qm qkey) fr H Q = opK (aOp lim (dest.map (b + ·)) (.delete qkk qm qkey) (ev fr) (maskH b mask H)) fun v H' => Q v (unmaskH b mask H H') := oK_some rfl
theorem on_makeFunc {qf : FuncId} {qfirst qcaptured : List Operand} : oK E lim none dest mask (.makeFunc qf qfirst qcaptured) fr H Q = opK (aOp lim none (.makeFunc qf qfirst qcaptured) (ev fr) H) Q := oK_none rfl
theorem ob_makeFunc {qf : FuncId} {qfirst qcaptured : List Operand} : oK E lim (some b) dest mask (.makeFunc qf qfirst qcaptured) fr H Q = opK (aOp lim (dest.map (b + ·)) (.makeFunc qf qfirst qcaptured) (ev fr) (maskH b mask H)) fun v H' => Q v (unmaskH b mask H H') := oK_some rfl
theorem on_extract {qi : Nat} {qx : Operand} : oK E lim none dest mask (.extract qi qx) fr H Q = opK (aOp lim none (.extract qi qx) (ev fr) H) Q := oK_none rfl
theorem ob_extract {qi : Nat} {qx : Operand} : oK E lim (some b) dest mask (.extract qi qx) fr H Q = opK (aOp lim (dest.map (b + ·)) (.extract qi qx) (ev fr) (maskH b mask H)) fun v H' => Q v (unmaskH b mask H H') := oK_some rfl
theorem on_b2s {qx : Operand} : oK E lim none dest mask (.b2s qx) fr H Q = opK (aOp lim none (.b2s qx) (ev fr) H) Q := oK_none rfl
theorem ob_b2s {qx : Operand} : oK E lim (some b) dest mask (.b2s qx) fr H Q = opK (aOp lim (dest.map (b + ·)) (.b2s qx) (ev fr) (maskH b mask H)) fun v H' => Q v (unmaskH b mask H H') := oK_some rfl
theorem on_strId {qx : Operand} : oK E lim none dest mask (.strId qx) fr H Q = opK (aOp lim none (.strId qx) (ev fr) H) Q := oK_none rfl
theorem ob_strId {qx : Operand} : oK E lim (some b) dest mask (.strId qx) fr H Q = opK (aOp lim (dest.map (b + ·)) (.strId qx) (ev fr) (maskH b mask H)) fun v H' => Q v (unmaskH b mask H H') := oK_some rfl
end

section
variable {E : Env} {af : AFunc} {lim : Nat} {K : List AItem} {fr : Nat → Value} {H : Heap} {R : Value → Heap → Prop}
theorem Ret_is {base g o dest mask l} {d : Nat} (hd : d < af.ntmps) : Ret E af lim (.ops base (⟨some d, g, o, dest, mask⟩ :: l) :: K) fr H R =
    gK af.ntmps fr g (oK E lim base dest mask o fr H fun v H' => Ret E af lim (.ops base l :: K) (upd fr d v) H' R) (Ret E af lim (.ops base l :: K) (upd fr d undef) H R) := Ret_i (d := some d) (by simp [dOk, hd])
theorem Ret_in {base g o dest mask l} : Ret E af lim (.ops base (⟨none, g, o, dest, mask⟩ :: l) :: K) fr H R =
    gK af.ntmps fr g (oK E lim base dest mask o fr H fun v H' => Ret E af lim (.ops base l :: K) fr H' R) (Ret E af lim (.ops base l :: K) fr H R) := Ret_i (d := none) rfl
end

section
variable {E : Env} {af : AFunc} {lim : Nat} {K : List AItem} {fr : Nat → Value} {H : Heap} {R : Value → Heap → Prop}
/-- Out of a loop, at its head. -/
theorem Ret_out {id : Nat} {c b : ACode} : Ret E af lim (.code (.exit id) :: .code c :: .inLoop b :: .inBlock id :: K) fr H R = Ret E af lim K fr H R := Ret_exit (by simp [aExit])
/-- Out of a loop, from within its block. -/
theorem Ret_out2 {id id' : Nat} {c b : ACode} (h : id' ≠ id) : Ret E af lim (.code (.exit id) :: .inBlock id' :: .code c :: .inLoop b :: .inBlock id :: K) fr H R = Ret E af lim K fr H R := Ret_exit (by simp [aExit, h])
/-- On to the next round. -/
theorem Ret_next {id : Nat} {c b : ACode} : Ret E af lim (.code (.exit id) :: .inBlock id :: .code c :: .inLoop b :: K) fr H R = Ret E af lim (.code c :: .inLoop b :: K) fr H R := Ret_exit (by simp [aExit])
end

/-! ### Cases -/
section
variable {p q : Prop} {c : Prop} [Decidable c]
theorem wantK_tt : wantK (.bool true) true p q = p := by simp [wantK]
theorem wantK_ff : wantK (.bool false) false p q = p := by simp [wantK]
theorem wantK_tf : wantK (.bool true) false p q = q := by simp [wantK]
theorem wantK_ft : wantK (.bool false) true p q = q := by simp [wantK]
theorem condK_tt : condK (.bool true) p q = p := rfl
theorem condK_ff : condK (.bool false) p q = q := rfl
theorem wantK_dec {b : Bool} (h1 : c → wantK (.bool true) b p q) (h2 : ¬ c → wantK (.bool false) b p q) : wantK (.bool (decide c)) b p q := by
  by_cases h : c
  · rw [decide_eq_true h]; exact h1 h
  · rw [decide_eq_false h]; exact h2 h
theorem condK_dec (h1 : c → p) (h2 : ¬ c → q) : condK (.bool (decide c)) p q := by
  by_cases h : c
  · rw [decide_eq_true h]; exact h1 h
  · rw [decide_eq_false h]; exact h2 h
theorem wantK_any {t b : Bool} (h1 : t = true → wantK (.bool true) b p q) (h2 : t = false → wantK (.bool false) b p q) : wantK (.bool t) b p q := by
  cases t
  · exact h2 rfl
  · exact h1 rfl
theorem condK_any {t : Bool} (h1 : t = true → p) (h2 : t = false → q) : condK (.bool t) p q := by
  cases t
  · exact h2 rfl
  · exact h1 rfl
theorem int_beq {a b : Int} : (a == b) = decide (a = b) := by by_cases h : a = b <;> simp [h]
theorem int_bne {a b : Int} : (a != b) = decide (¬ a = b) := by by_cases h : a = b <;> simp [h, bne]
theorem not_dec : (!decide c) = decide (¬ c) := by by_cases h : c <;> simp [h]
end

/-! ### Composite literals, cell by cell -/
def fillV (off size : Nat) (v : Value) (c : List Value) : Option (List Value) :=
  if v.cells.toList.length = size ∧ off + size ≤ c.length ∧ notTuple v = true then some (setAll c off v.cells.toList) else none
def fillK (ρ : Operand → Value) (rest : List (Nat × Nat × Operand)) (r : Option (List Value)) : Option (List Value) := match r with | some c => fillParts ρ rest c | none => none
theorem fillParts_cons {ρ : Operand → Value} {off size : Nat} {x : Operand} {rest : List (Nat × Nat × Operand)} {c : List Value} : fillParts ρ ((off, size, x) :: rest) c = fillK ρ rest (fillV off size (ρ x) c) := by
  unfold fillK fillV
  simp only [fillParts]
  split <;> rfl
theorem fillParts_nil {ρ : Operand → Value} {c : List Value} : fillParts ρ [] c = some c := rfl
theorem fillK_some {ρ : Operand → Value} {rest : List (Nat × Nat × Operand)} {c : List Value} : fillK ρ rest (some c) = fillParts ρ rest c := rfl
theorem fillK_congr {ρ : Operand → Value} {rest : List (Nat × Nat × Operand)} {r r' : Option (List Value)} (h : r = r') : fillK ρ rest r = fillK ρ rest r' := by rw [h]
theorem fillV_congr {off size : Nat} {v v' : Value} {c : List Value} (h : v = v') : fillV off size v c = fillV off size v' c := by rw [h]
attribute [congr] fillK_congr fillV_congr
theorem fillV_one {off : Nat} {v : Value} {c : List Value} (hv : v.oneCell' = true) (ht : notTuple v = true) (h : off < c.length) : fillV off 1 v c = some (c.set off v) := by
  cases v <;> first | (simp [Value.oneCell'] at hv; done) | (simp [notTuple] at ht; done) | (unfold fillV; rw [if_pos ⟨by simp [Value.cells], h, ht⟩]; rfl)
theorem fillV_int {off : Nat} {k : IntKind} {n : Int} {c : List Value} (h : off < c.length) : fillV off 1 (.int k n) c = some (c.set off (.int k n)) := fillV_one rfl rfl h
theorem fillV_bool {off : Nat} {b : Bool} {c : List Value} (h : off < c.length) : fillV off 1 (.bool b) c = some (c.set off (.bool b)) := fillV_one rfl rfl h
theorem fillV_func {off : Nat} {f : Fn} {a b : Array Value} {c : List Value} (h : off < c.length) : fillV off 1 (.func f a b) c = some (c.set off (.func f a b)) := fillV_one rfl rfl h
theorem fillV_agg {off n : Nat} {l c : List Value} (h : l.length = n ∧ off + n ≤ c.length) : fillV off n (.agg l.toArray) c = some (setAll c off l) := by
  unfold fillV
  rw [if_pos ⟨by simpa [Value.cells] using h.1, h.2, rfl⟩]
  rfl
theorem setAll_nil {c : List Value} {o : Nat} : setAll c o [] = c := rfl
theorem setAll_cons {c : List Value} {o : Nat} {v : Value} {vs : List Value} : setAll c o (v :: vs) = setAll (c.set o v) (o + 1) vs := rfl

/-! ### Values and results -/
section
variable {fr : Nat → Value} {H : Heap}
theorem cells_agg {a : Array Value} : (Value.agg a).cells = a := rfl
theorem cells_int {k : IntKind} {n : Int} : (Value.int k n).cells = #[.int k n] := rfl
theorem cells_bool {b : Bool} : (Value.bool b).cells = #[.bool b] := rfl
theorem arr_list {l : List Value} : l.toArray.toList = l := rfl
theorem arr_size {l : List Value} : l.toArray.size = l.length := rfl
def consK : Option Value → Option (List Value) → Option (List Value)
  | some v, some vs => some (v :: vs)
  | _, _ => none
def finK : Option (List Value) → Option Value
  | some [v] => some v
  | some vs => some (.tuple vs.toArray)
  | none => none
theorem resAll_nil : resAll fr H [] = some [] := rfl
theorem resAll_cons {r : ARes} {rs : List ARes} : resAll fr H (r :: rs) = consK (resVal fr H r) (resAll fr H rs) := by
  unfold consK
  simp only [resAll]
  cases resVal fr H r <;> cases resAll fr H rs <;> rfl
theorem result_fin {rs : List ARes} : result fr H rs = finK (resAll fr H rs) := by
  unfold finK result
  cases resAll fr H rs <;> rfl
theorem consK_some {v : Value} {vs : List Value} : consK (some v) (some vs) = some (v :: vs) := rfl
theorem finK_one {v : Value} : finK (some [v]) = some v := rfl
theorem finK_more {v u : Value} {vs : List Value} : finK (some (v :: u :: vs)) = some (.tuple (v :: u :: vs).toArray) := rfl
theorem finK_nil : finK (some []) = some (.tuple #[]) := rfl
end

/-! ### Elements of slices -/
def idxK (e : Nat) (x i : Value) (H : Heap) : Option (Value × Heap) := match x, i with
    | .slice (some p) len _, .int _ n => if 0 ≤ n ∧ n < (len : Int) then some (.pointer (some (p.add (n.toNat * e))), H) else none
    | _, _ => none
theorem aOp_idxS {lim : Nat} {dest : Option Nat} {e : Nat} {x i : Operand} {ρ : Operand → Value} {H : Heap} : aOp lim dest (.idxAddrS e x i) ρ H = idxK e (ρ x) (ρ i) H := by
  simp only [aOp]; unfold idxK; rfl
theorem idxK_nat {e n len c : Nat} {p : Addr} {k : IntKind} {H : Heap} (h : n < len) : idxK e (.slice (some p) len c) (.int k (n : Int)) H = some (.pointer (some (p.add (n * e))), H) := by
  unfold idxK
  simp only
  rw [if_pos ⟨by omega, by omega⟩]
  simp
section
variable {E : Env} {lim b : Nat} {dest : Option Nat} {mask : List Nat} {fr : Nat → Value} {H : Heap} {Q : Value → Heap → Prop}
theorem on_idxAddrS {e : Nat} {x i : Operand} : oK E lim none dest mask (.idxAddrS e x i) fr H Q = opK (idxK e (ev fr x) (ev fr i) H) Q := by rw [oK_none rfl, aOp_idxS]
theorem ob_idxAddrS {e : Nat} {x i : Operand} : oK E lim (some b) dest mask (.idxAddrS e x i) fr H Q = opK (idxK e (ev fr x) (ev fr i) (maskH b mask H)) fun v H' => Q v (unmaskH b mask H H') := by rw [oK_some rfl, aOp_idxS]
end
theorem addr_add {b o n : Nat} : (⟨b, o, none⟩ : Addr).add n = ⟨b, o + n, none⟩ := by
  simp only [Addr.add]
  first | rfl | (split <;> simp_all)
theorem wrap_nat {n : Nat} (h : n + 1 < 2 ^ 63) : IntKind.i64.wrap ((n : Int) + 1) = ((n + 1 : Nat) : Int) := by
  have h1 : ((n : Int) + 1) % 2 ^ 64 = (n : Int) + 1 := Int.emod_eq_of_lt (by omega) (by omega)
  simp only [IntKind.wrap, IntKind.bits, IntKind.signed, h1]
  rw [if_neg (by simp; omega)]
  omega

/-! ### Places that are masked -/
section
variable {b i : Nat} {l : List Nat} {H H0 : Heap}
theorem mask_cons : maskH b (i :: l) H = maskH b l (H.set (b + i) .dead) := rfl
theorem unmask_cons : unmaskH b (i :: l) H0 H = unmaskH b l H0 (H.set (b + i) (hget H0 (b + i))) := rfl
theorem pad_one : List.replicate 1 Blk.dead = [.dead] := rfl
theorem pad_zero : List.replicate 0 Blk.dead = [] := rfl
theorem pad_two : List.replicate 2 Blk.dead = [.dead, .dead] := rfl
theorem pad_three : List.replicate 3 Blk.dead = [.dead, .dead, .dead] := rfl
end
end Go.AM
