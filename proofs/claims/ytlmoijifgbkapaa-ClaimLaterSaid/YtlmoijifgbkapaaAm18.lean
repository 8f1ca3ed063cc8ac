/-
  The abstract machine, part 18: one operation, calls among them, as the model steps; with places masked, too.
-/
import Derived.Test.YtlmoijifgbkapaaAm15
import Derived.Test.YtlmoijifgbkapaaAm17
set_option linter.unusedVariables false
set_option linter.unusedSimpArgs false
namespace Go.AM

/-- What is alive was so, or is one's own. -/
def Grow (lim : Nat) (H H' : Heap) : Prop := ∀ (j : Nat) b, H'[j]? = some b → alive b = true → H[j]? = some b ∨ (owned b = true ∧ lim ≤ j)
theorem Grow.refl (lim : Nat) (H : Heap) : Grow lim H H := fun _ _ h _ => .inl h
theorem Grow.trans {lim : Nat} {A B C : Heap} (h : Grow lim A B) (k : Grow lim B C) : Grow lim A C := fun j b hb ha => by
  rcases k j b hb ha with h1 | h1
  · exact h j b h1 ha
  · exact .inr h1
theorem Grow.set {lim : Nat} {H : Heap} {i : Nat} {b : Blk} (hb : alive b = true → owned b = true ∧ lim ≤ i) : Grow lim H (H.set i b) := fun j c hc ha => by
  rw [List.getElem?_set] at hc
  split at hc
  · rename_i e
    split at hc
    · cases hc; exact .inr (e ▸ hb ha)
    · cases hc
  · exact .inl hc
theorem Grow.place {lim : Nat} {H : Heap} {dest : Option Nat} {b : Blk} (hb : owned b = true) (hd : ∀ d, dest = some d → lim ≤ d) (hl : lim ≤ H.length) : Grow lim H (place dest b H).2 := by
  cases dest with
  | some d => exact Grow.set fun _ => ⟨hb, hd d rfl⟩
  | none =>
    intro j c hc ha
    simp only [AM.place] at hc
    by_cases hj : j < H.length
    · rw [List.getElem?_append_left hj] at hc; exact .inl hc
    · rw [List.getElem?_append_right (by omega)] at hc
      have hj2 : j - H.length = 0 := by
        have := (List.getElem?_eq_some_iff.1 hc).1
        simp at this; omega
      rw [hj2] at hc
      simp at hc; subst hc
      exact .inr ⟨hb, by omega⟩
theorem Grow.dead {lim : Nat} {H : Heap} (n : Nat) : Grow lim H (H ++ List.replicate n .dead) := fun j c hc ha => by
  by_cases hj : j < H.length
  · rw [List.getElem?_append_left hj] at hc; exact .inl hc
  · rw [List.getElem?_append_right (by omega), List.getElem?_replicate] at hc
    split at hc
    · cases hc; simp [alive] at ha
    · cases hc
theorem storeAt_grow {lim : Nat} {H H' : Heap} {a : Addr} {vs : List Value} (h : storeAt lim H a vs = some H') : Grow lim H H' := by
  unfold storeAt at h
  split at h
  · split at h
    · rename_i hc; cases h; exact Grow.set fun _ => ⟨rfl, hc.1⟩
    · cases h
  · cases h

theorem aOp_grow {o : AOp} {lim : Nat} {dest : Option Nat} {ρ : Operand → Value} {H H' : Heap} {v : Value} (h : aOp lim dest o ρ H = some (v, H')) (hd : ∀ d, dest = some d → lim ≤ d) (hl : lim ≤ H.length) : Grow lim H H' := by
  cases hk : kind o with
  | p => rw [(kind_p hk h).1]; exact Grow.refl _ _
  | r =>
    by_cases hc : ∃ mp f args, o = .call mp f args
    · obtain ⟨mp, f, args, rfl⟩ := hc; simp [aOp] at h
    · rw [kind_r hk (fun mp f args e => hc ⟨mp, f, args, e⟩) h]; exact Grow.refl _ _
  | c =>
    cases o <;> simp [kind] at hk
    simp [aOp] at h
  | a =>
    cases o <;> simp [kind] at hk <;> simp only [aOp] at h
    case alloc => cases h; exact Grow.place (b := .cells false _) rfl hd hl
    case box =>
      split at h
      case isFalse => cases h
      cases h; exact Grow.place (b := .cells false _) rfl hd hl
    case buildSlice =>
      split at h
      case h_2 => cases h
      cases h; exact Grow.place (b := .cells false _) rfl hd hl
    case makeSlice =>
      split at h
      case h_2 => cases h
      split at h
      case isFalse => cases h
      cases h; exact Grow.place (b := .cells false _) rfl hd hl
    case makeMap =>
      split at h
      case h_2 => cases h
      cases h; exact Grow.place (b := .map []) rfl hd hl
    case call mp f args => split at hk <;> cases hk
  | w =>
    cases o <;> simp [kind] at hk <;> simp only [aOp] at h
    case store =>
      split at h
      · split at h
        · simp only [Option.map_eq_some_iff, Prod.mk.injEq] at h; obtain ⟨_, h1, _, rfl⟩ := h; exact storeAt_grow h1
        · cases h
      · cases h
    case append =>
      unfold aAppend at h
      split at h
      case h_2 => cases h
      split at h
      · cases h
      split at h
      · cases h; exact Grow.refl _ _
      split at h
      · split at h
        · cases h; exact Grow.place (b := .cells false _) rfl hd hl
        · cases h
      · split at h
        · cases h
        split at h
        · split at h
          · split at h
            · cases h
              exact (Grow.set (b := .dead) fun h => by simp [alive] at h).trans (Grow.place (b := .cells false _) rfl hd (by simpa using hl))
            · cases h
          · cases h
        · split at h
          · split at h
            · split at h
              · rename_i h1; cases h; exact storeAt_grow h1
              · cases h
            · cases h; exact Grow.place (b := .cells false _) rfl hd hl
          · cases h
    case copy =>
      split at h
      · split at h
        · split at h
          · split at h
            · cases h; exact Grow.refl _ _
            · simp only [Option.map_eq_some_iff, Prod.mk.injEq] at h; obtain ⟨_, h1, _, rfl⟩ := h; exact storeAt_grow h1
          · split at h
            · cases h; exact Grow.refl _ _
            · cases h
        · cases h
      · cases h
    case mapUpdate =>
      split at h
      · split at h
        · split at h
          · rename_i hc
            split at h <;> cases h
            · exact Grow.set fun _ => ⟨rfl, hc.2⟩
            · exact Grow.set fun _ => ⟨rfl, hc.2⟩
          · cases h
        · cases h
      · cases h
    case delete =>
      split at h
      · split at h <;> cases h; exact Grow.refl _ _
      · split at h
        · split at h
          · rename_i hc
            split at h <;> cases h
            · exact Grow.set fun _ => ⟨rfl, hc.2⟩
            · exact Grow.refl _ _
          · cases h
        · cases h
      · cases h
    case call mp f args => split at hk <;> cases hk

/-- What a call has come to. -/
def CallPost (W : Nat → Prop) (lim : Nat) (σ : Sig) (H : Heap) (v : Value) (H' : Heap) (w : World) : Ending → World → Prop := fun e w' =>
  ∃ v' σ', e = .returned v' ∧ VRel σ' v v' ∧ Inv W lim σ' H' w' ∧ Stp W w w' ∧ Sig.le σ σ' ∧ ∀ j, σ' j ≠ σ j → H.length ≤ j

structure CallOk (P : Program) (C : CallF) : Prop extends CallOk0 C where
  fn : ∀ mp lim g as H v H', C mp lim g as H = some (v, H') → ∃ fn, P.funcs[g]? = some fn ∧ fn.body.isSome = true ∧ (fn.name == "runtime.NumGoroutine") = false
  calls : ∀ mp lim g as H v H', C mp lim g as H = some (v, H') → lim ≤ H.length → ∀ W σ w as', Inv W lim σ H w → LRel σ as as' → Calls P g as'.toArray w (CallPost W lim σ H v H' w)
  grow : ∀ mp lim g as H v H', C mp lim g as H = some (v, H') → lim ≤ H.length → Grow lim H H'

section
variable {P : Program} {pureF : FuncId → Bool} {C : CallF} {W : Nat → Prop} {lim : Nat} {σ : Sig} {H H' : Heap} {w : World} {dest : Option Nat}

/-- What a step hands on. -/
def Next' (W : Nat → Prop) (lim : Nat) (σ : Sig) (dest : Option Nat) (H : Heap) (w : World) (v : Value) (H' : Heap) (v' : Value) (w' : World) (σ' : Sig) : Prop :=
  VRel σ' v v' ∧ Inv W lim σ' H' w' ∧ Stp W w w' ∧ Sig.le σ σ' ∧ (∀ j, σ' j ≠ σ j → dest = some j ∨ H.length ≤ j) ∧ H.length ≤ H'.length ∧ Grow lim H H'

theorem call_enter {ρ' : Operand → Value} {o : Oper} {c : Call} (ho : o.op = .call c) {f : Operand} (hc : c.callee = .value f) {g : FuncId} {fi ca : Array Value} (hf : ρ' f = .func (.func g) fi ca)
    {fn : Func} (h1 : P.funcs[g]? = some fn) (h2 : fn.body.isSome = true) (h3 : (fn.name == "runtime.NumGoroutine") = false) :
    (execOp ρ' o).run P w = .ok (.enter g (fi ++ c.args.map ρ' ++ ca)) w := by
  have hb : fn.body.isNone = false := by cases h : fn.body <;> simp_all
  have h3' : ¬ (fn.name = "runtime.NumGoroutine") := by simpa using h3
  simp [execOp, ho, resolve, hc, Deferred.ofValue, hf, invoke, callFunc, h1, h3']
  intro h; rw [h] at h2; cases h2

theorem stepOp_wp (hC : CallOk P C) {draw : Bool} {o : Oper} {ao : AOp} (htr : trOp P pureF draw o = some ao) (hinv : Inv W lim σ H w) (hl : lim ≤ H.length) (hdl : ∀ d, dest = some d → lim ≤ d) (hd : ∀ d, dest = some d → d < H.length ∧ σ d = none)
    {ρ : Operand → Value} {a : Act} (hρ : ∀ x, okOperand x = true → VRel σ (ρ x) (a.eval x)) {v : Value} (hx : stepOp C lim dest ao ρ H = some (v, H'))
    {K : Act → World → Prop} {Q : Exit → Act → World → Prop} (hK : ∀ v' w' σ', Next' W lim σ dest H w v H' v' w' σ' → K (a.put o.dst v') w') : o.wp P a w K Q := by
  by_cases hcall : ∃ mp f args, ao = .call mp f args
  · obtain ⟨mp, f, args, rfl⟩ := hcall
    -- the operation is a call
    have hop : ∃ c, o.op = .call c ∧ c.callee = .value f ∧ args = c.args.toList ∧ ∀ x ∈ o.op.operands, okOperand x = true := by
      obtain ⟨dst, op, type, pos, after, guard⟩ := o
      unfold trOp at htr
      split at htr
      · cases htr
      rename_i hok
      simp only [Bool.not_eq_true, Bool.not_eq_false'] at hok
      have hoks : ∀ x ∈ op.operands, okOperand x = true := fun x hx => okOps (o := ⟨dst, op, type, pos, after, guard⟩) (by simpa using hok) hx
      cases op <;> (try simp only at htr) <;> try (cases htr; done)
      case call c =>
        refine ⟨c, rfl, ?_⟩
        cases hc : c.callee with
        | value f' => rw [hc] at htr; simp at htr; obtain ⟨_, rfl, rfl⟩ := htr; exact ⟨rfl, rfl, hoks⟩
        | invoke r m => rw [hc] at htr; simp at htr
        | builtin b =>
          rw [hc] at htr
          exfalso
          cases b <;> (try simp only at htr) <;> (try (cases htr; done)) <;> (repeat' (split at htr)) <;> first
            | (cases htr; done)
            | (simp only [Option.map_eq_some_iff] at htr; obtain ⟨_, _, htr⟩ := htr; cases htr; done)
            | (exfalso; simp at htr; done)
            | (obtain ⟨_, _, htr⟩ := opt_bind htr; obtain ⟨_, _, htr⟩ := opt_bind htr; obtain ⟨_, _, htr⟩ := opt_bind htr; split at htr <;> cases htr; done)
      all_goals exfalso
      all_goals (repeat' (first | (obtain ⟨_, _, htr⟩ := opt_bind htr) | split at htr))
      all_goals first
        | (cases htr; done)
        | (simp only [Option.map_eq_some_iff] at htr; obtain ⟨_, _, htr⟩ := htr; cases htr; done)
        | contradiction
    obtain ⟨c, ho, hcal, rfl, hoks⟩ := hop
    simp only [stepOp] at hx
    split at hx
    case h_2 => cases hx
    rename_i g as hcl
    unfold callee at hcl
    split at hcl
    case h_2 => cases hcl
    rename_i g' fi ca hf
    simp only [Option.some.injEq, Prod.mk.injEq] at hcl
    obtain ⟨rfl, rfl⟩ := hcl
    have hfo : okOperand f = true := hoks f (by rw [ho]; simp [Op.operands, Call.operands, hcal])
    have hfv := hρ f hfo
    rw [hf] at hfv
    obtain ⟨fi', ca', hf', hfi, hca⟩ := hfv.func_left
    obtain ⟨fn, h1, h2, h3⟩ := hC.fn _ _ _ _ _ _ _ hx
    have hrun := call_enter (P := P) (w := w) ho hcal hf' h1 h2 h3
    have hargs : LRel σ (c.args.toList.map ρ) (c.args.map a.eval).toList := by
      have : (c.args.map a.eval).toList = c.args.toList.map a.eval := by simp
      rw [this]
      exact lrel_map_rho fun x hx => hρ x (hoks x (by rw [ho]; simp only [Op.operands, Call.operands, hcal]; simp at hx ⊢; exact .inr hx))
    have hcalls := hC.calls _ _ _ _ _ _ _ hx hl W σ w (fi'.toList ++ (c.args.map a.eval).toList ++ ca'.toList) hinv ((hfi.append hargs).append hca)
    have e : (fi'.toList ++ (c.args.map a.eval).toList ++ ca'.toList).toArray = fi' ++ c.args.map a.eval ++ ca' := by
      apply Array.ext'; simp
    rw [e] at hcalls
    unfold Oper.wp
    rw [hrun, Oper.upon_enter]
    refine hcalls.mono fun en w' hp => ?_
    obtain ⟨v', σ', rfl, q1, q2, q3, q4, q5⟩ := hp
    exact hK v' w' σ' ⟨q1, q2, q3, q4, fun j hj => .inr (q5 j hj), hC.len _ _ _ _ _ _ _ hx hl, hC.grow _ _ _ _ _ _ _ hx hl⟩
  · have hnc : ∀ mp f args, ao ≠ .call mp f args := fun mp f args e => hcall ⟨mp, f, args, e⟩
    rw [stepOp_plain hnc] at hx
    obtain ⟨nx, w', σ', v', hr, hn, q1, q2, q3, q4, q5, q6, q7⟩ := aOp_sound htr hinv hρ hd hx
    have hnext : Next' W lim σ dest H w v H' v' w' σ' := ⟨q1, q2, q3, q4, fun j hj => (q5 j hj).imp id (·.2), q6, aOp_grow hx hdl hl⟩
    unfold Oper.wp
    rw [hr]
    cases nx <;> simp [nextVal] at hn
    · subst hn; rw [Oper.upon_value]; exact hK _ _ _ hnext
    · subst hn; rw [Oper.upon_skip]; exact hK _ _ _ hnext
end
end Go.AM
