/-
  The abstract machine, part 22: its runs: more fuel changes nothing; what grows.
-/
import Derived.Test.YtlmoijifgbkapaaAm21
set_option linter.unusedVariables false
set_option linter.unusedSimpArgs false
namespace Go.AM

/-- One way of calling knows no less than another. -/
def CLe (C C' : CallF) : Prop := ∀ mp lim g as H r, C mp lim g as H = some r → C' mp lim g as H = some r

theorem stepOp_mono {C C' : CallF} (h : CLe C C') {lim : Nat} {dest : Option Nat} {o : AOp} {ρ : Operand → Value} {H : Heap} {r} (hx : stepOp C lim dest o ρ H = some r) : stepOp C' lim dest o ρ H = some r := by
  by_cases hc : ∃ mp f args, o = .call mp f args
  · obtain ⟨mp, f, args, rfl⟩ := hc
    simp only [stepOp] at hx ⊢
    split at hx
    · exact h _ _ _ _ _ _ hx
    · cases hx
  · have hnc : ∀ mp f args, o ≠ .call mp f args := fun mp f args e => hc ⟨mp, f, args, e⟩
    rw [stepOp_plain hnc] at hx ⊢
    exact hx
theorem insOp_mono {C C' : CallF} (h : CLe C C') {N lim : Nat} {base : Option Nat} {i : AIns} {fr : Nat → Value} {H : Heap} {r} (hx : insOp C N lim base i fr H = some r) : insOp C' N lim base i fr H = some r := by
  unfold insOp at hx ⊢
  cases hv : insVal C N lim base i fr H with
  | none => rw [hv] at hx; cases hx
  | some p =>
    have : insVal C' N lim base i fr H = some p := by
      unfold insVal at hv ⊢
      cases hw : wantedA N fr i.guard with
      | none => rw [hw] at hv; cases hv
      | some b =>
        rw [hw] at hv
        cases b with
        | false => exact hv
        | true =>
          cases base with
          | none => exact stepOp_mono h hv
          | some b =>
            simp only at hv ⊢
            cases hs : stepOp C lim (i.dest.map (b + ·)) i.op (ev fr) (maskH b i.mask H) with
            | none => rw [hs] at hv; cases hv
            | some q => rw [hs] at hv; rw [stepOp_mono h hs]; exact hv
    rw [hv] at hx
    rw [this]
    exact hx
theorem callWith_mono {E : Env} {run run' : AFunc → Nat → List Value → Heap → Option (Value × Heap)} (h : ∀ af lim as H r, run af lim as H = some r → run' af lim as H = some r) : CLe (callWith E run) (callWith E run') := by
  intro mp lim g as H r hx
  unfold callWith at hx ⊢
  split at hx
  · exact hx
  · split at hx
    · cases hx
    · rename_i af haf
      split at hx
      · rename_i hp
        rw [if_pos hp]
        split at hx
        · rename_i v H1 h1
          rw [h _ _ _ _ _ h1]
          exact hx
        · cases hx
      · rename_i hp
        rw [if_neg hp]
        split at hx
        · cases hx
        · rename_i hm
          rw [if_neg hm]
          exact h _ _ _ _ _ hx

theorem aRun_succ (E : Env) : ∀ (n : Nat) (af : AFunc) (lim : Nat) (k : List AItem) (fr : Nat → Value) (H : Heap) (r), aRun E n af lim k fr H = some r → aRun E (n + 1) af lim k fr H = some r
  | 0, _, _, _, _, _, _, h => by simp [aRun] at h
  | n + 1, af, lim, k, fr, H, r, h => by
    have ih := aRun_succ E n
    rw [aRun.eq_def] at h ⊢
    simp only at h ⊢
    cases k with
    | nil => exact h
    | cons x k =>
      cases x with
      | inBlock id => exact ih _ _ _ _ _ _ h
      | inLoop c => exact ih _ _ _ _ _ _ h
      | ops base l =>
        cases l with
        | nil => exact ih _ _ _ _ _ _ h
        | cons i l =>
          simp only at h ⊢
          split at h
          · rename_i fr' H' hx
            rw [insOp_mono (callWith_mono fun af' lim' as H' r h => ih _ _ _ _ _ _ h) hx]
            exact ih _ _ _ _ _ _ h
          · cases h
      | code c =>
        cases c <;> simp only at h ⊢ <;> first
          | exact ih _ _ _ _ _ _ h
          | exact h
          | skip
        case cond c a b =>
          cases hc : ev fr c <;> rw [hc] at h <;> first
            | (rename_i b; cases b <;> exact ih _ _ _ _ _ _ h)
            | (cases h; done)
        case exit id =>
          split at h
          · exact ih _ _ _ _ _ _ h
          · cases h
theorem aRun_le (E : Env) {n m : Nat} (h : n ≤ m) {af : AFunc} {lim : Nat} {k : List AItem} {fr : Nat → Value} {H : Heap} {r} (hx : aRun E n af lim k fr H = some r) : aRun E m af lim k fr H = some r := by
  induction h with
  | refl => exact hx
  | step _ ih => exact aRun_succ E _ _ _ _ _ _ _ ih
theorem aCall_le (E : Env) {n m : Nat} (h : n ≤ m) : CLe (aCall E n) (aCall E m) := callWith_mono fun _ _ _ _ _ hx => aRun_le E h hx

theorem insOp_call (E : Env) (n : Nat) : (callWith E fun af' lim' as H' => aRun E n af' lim' [.code af'.body] (frame0 as) H') = aCall E n := rfl

/-- A region's run, taken out of a function's. -/
theorem ops_split (E : Env) : ∀ (l : List AIns) (n : Nat) (af : AFunc) (lim : Nat) (base : Option Nat) (k : List AItem) (fr : Nat → Value) (H : Heap) (r), aRun E n af lim (.ops base l :: k) fr H = some r →
    ∃ m fr' H', m < n ∧ dOps (aCall E (n - 1)) af.ntmps lim base l fr H = some (fr', H') ∧ aRun E m af lim k fr' H' = some r
  | l, 0, af, lim, base, k, fr, H, r, h => by simp [aRun] at h
  | [], n + 1, af, lim, base, k, fr, H, r, h => by
    rw [aRun.eq_def] at h
    exact ⟨n, fr, H, by omega, rfl, h⟩
  | i :: l, n + 1, af, lim, base, k, fr, H, r, h => by
    rw [aRun.eq_def] at h
    simp only at h
    split at h
    · rename_i fr1 H1 hx
      obtain ⟨m, fr', H', h1, h2, h3⟩ := ops_split E l n af lim base k fr1 H1 r h
      refine ⟨m, fr', H', by omega, ?_, h3⟩
      have hx' : insOp (aCall E (n + 1 - 1)) af.ntmps lim base i fr H = some (fr1, H1) := hx
      simp only [dOps, hx']
      have mono : ∀ (l : List AIns) (fr : Nat → Value) (H : Heap) r, dOps (aCall E (n - 1)) af.ntmps lim base l fr H = some r → dOps (aCall E (n + 1 - 1)) af.ntmps lim base l fr H = some r := by
        intro l
        induction l with
        | nil => intro fr H r h; exact h
        | cons i l ih =>
          intro fr H r h
          obtain ⟨f, K, g1, g2⟩ := dOps_cons h
          simp only [dOps, insOp_mono (aCall_le E (show n - 1 ≤ n + 1 - 1 by omega)) g1]
          exact ih _ _ _ g2
      exact mono _ _ _ _ h2
    · cases h

/-! ### What grows -/
theorem storeAt_len' {lim : Nat} {H H' : Heap} {a : Addr} {vs : List Value} (h : storeAt lim H a vs = some H') : H.length ≤ H'.length := by rw [storeAt_len h]; exact Nat.le_refl _
theorem place_len {dest : Option Nat} {b : Blk} {H : Heap} : H.length ≤ (place dest b H).2.length := by
  cases dest <;> simp [place]
theorem aOp_len {o : AOp} {lim : Nat} {dest : Option Nat} {ρ : Operand → Value} {H H' : Heap} {v : Value} (h : aOp lim dest o ρ H = some (v, H')) : H.length ≤ H'.length := by
  cases hk : kind o with
  | p => rw [(kind_p hk h).1]; exact Nat.le_refl _
  | r =>
    by_cases hc : ∃ mp f args, o = .call mp f args
    · obtain ⟨mp, f, args, rfl⟩ := hc; simp [aOp] at h
    · rw [kind_r hk (fun mp f args e => hc ⟨mp, f, args, e⟩) h]; exact Nat.le_refl _
  | c =>
    cases o <;> simp [kind] at hk
    simp [aOp] at h
  | a =>
    cases o <;> simp [kind] at hk <;> simp only [aOp] at h
    case alloc => cases h; exact place_len
    case box =>
      split at h
      case isFalse => cases h
      cases h; exact place_len
    case buildSlice =>
      split at h
      case h_2 => cases h
      cases h; exact place_len
    case makeSlice =>
      split at h
      case h_2 => cases h
      split at h
      case isFalse => cases h
      cases h; exact place_len
    case makeMap =>
      split at h
      case h_2 => cases h
      cases h; exact place_len
    case call mp f args => split at hk <;> cases hk
  | w =>
    cases hm : makes o with
    | false => rw [kind_w_len' hk hm h]; exact Nat.le_refl _
    | true =>
      cases dest with
      | some d => rw [kind_w_len hk h]; exact Nat.le_refl _
      | none =>
        have ha : ∃ esz bytes str s x, o = .append esz bytes str s x := by
          cases o <;> simp [makes, kind] at hm <;> (try (simp [kind] at hk; done))
          case append => exact ⟨_, _, _, _, _, rfl⟩
          all_goals (exfalso; simp [kind] at hk; try (split at hk <;> cases hk))
        obtain ⟨esz, bytes, str, s, x, rfl⟩ := ha
        simp only [aOp] at h
        unfold aAppend at h
        split at h
        case h_2 => cases h
        split at h
        · cases h
        split at h
        · cases h; exact Nat.le_refl _
        split at h
        · split at h
          · cases h; simp [place]
          · cases h
        · split at h
          · cases h
          split at h
          · split at h
            · split at h
              · cases h; simp [place]
              · cases h
            · cases h
          · split at h
            · split at h
              · split at h
                · rename_i h1; cases h; exact storeAt_len' h1
                · cases h
              · cases h; simp [place]
            · cases h

def CallGrow (C : CallF) : Prop := ∀ mp lim g as H v H', C mp lim g as H = some (v, H') → lim ≤ H.length → H.length ≤ H'.length ∧ Grow lim H H'

theorem stepOp_grow {C : CallF} (hC : CallGrow C) {lim : Nat} {dest : Option Nat} {o : AOp} {ρ : Operand → Value} {H H' : Heap} {v : Value} (h : stepOp C lim dest o ρ H = some (v, H')) (hd : ∀ d, dest = some d → lim ≤ d) (hl : lim ≤ H.length) :
    H.length ≤ H'.length ∧ Grow lim H H' := by
  by_cases hc : ∃ mp f args, o = .call mp f args
  · obtain ⟨mp, f, args, rfl⟩ := hc
    simp only [stepOp] at h
    split at h
    · exact hC _ _ _ _ _ _ _ h hl
    · cases h
  · have hnc : ∀ mp f args, o ≠ .call mp f args := fun mp f args e => hc ⟨mp, f, args, e⟩
    rw [stepOp_plain hnc] at h
    exact ⟨aOp_len h, aOp_grow h hd hl⟩

theorem unmask_grow {lim base : Nat} {l : List Nat} {H X : Heap} (h : Grow lim (maskH base l H) X) : Grow lim H (unmaskH base l H X) := fun j b hb ha => by
  by_cases hj : ∃ i ∈ l, base + i = j
  · have hlt : j < X.length := by
      have := (List.getElem?_eq_some_iff.1 hb).1
      rw [unmask_length] at this; exact this
    rw [unmask_in base H l X hj hlt] at hb
    simp only [Option.some.injEq] at hb
    exact .inl (hget_some hb ha)
  · have hj' : ∀ i ∈ l, base + i ≠ j := fun i hi e => hj ⟨i, hi, e⟩
    rw [unmask_out base H l X hj'] at hb
    rcases h j b hb ha with h1 | h1
    · rw [mask_out base l H hj'] at h1; exact .inl h1
    · exact .inr h1

theorem insOp_grow {C : CallF} (hC : CallGrow C) {N lim : Nat} {base : Option Nat} {i : AIns} {fr fr' : Nat → Value} {H H' : Heap} (h : insOp C N lim base i fr H = some (fr', H')) (hb : ∀ b, base = some b → lim ≤ b) (hl : lim ≤ H.length) :
    H.length ≤ H'.length ∧ Grow lim H H' := by
  unfold insOp at h
  cases hv : insVal C N lim base i fr H with
  | none => rw [hv] at h; cases h
  | some p =>
    obtain ⟨v, K⟩ := p
    rw [hv] at h
    simp only [Option.map_eq_some_iff, Prod.mk.injEq] at h
    obtain ⟨f, hf, rfl, rfl⟩ := h
    unfold insVal at hv
    cases hw : wantedA N fr i.guard with
    | none => rw [hw] at hv; cases hv
    | some b =>
      rw [hw] at hv
      cases b with
      | false => cases hv; exact ⟨Nat.le_refl _, Grow.refl _ _⟩
      | true =>
        cases base with
        | none => exact stepOp_grow hC hv (fun d e => by cases e) hl
        | some b =>
          simp only at hv
          cases hs : stepOp C lim (i.dest.map (b + ·)) i.op (ev fr) (maskH b i.mask H) with
          | none => rw [hs] at hv; cases hv
          | some q =>
            obtain ⟨v1, X⟩ := q
            rw [hs] at hv
            cases hv
            obtain ⟨g1, g2⟩ := stepOp_grow hC hs (fun d e => by
              simp only [Option.map_eq_some_iff] at e
              obtain ⟨r, _, rfl⟩ := e
              have := hb b rfl
              omega) (by rw [mask_length]; exact hl)
            exact ⟨by rw [unmask_length]; rw [mask_length] at g1; exact g1, unmask_grow g2⟩

theorem callWith_grow {E : Env} {run : AFunc → Nat → List Value → Heap → Option (Value × Heap)} (h : ∀ af lim as H v H', run af lim as H = some (v, H') → lim ≤ H.length → H.length ≤ H'.length ∧ Grow lim H H') : CallGrow (callWith E run) := by
  intro mp lim g as H v H' hx hl
  unfold callWith at hx
  split at hx
  · split at hx
    · cases hx; exact ⟨Nat.le_refl _, Grow.refl _ _⟩
    · cases hx
  · split at hx
    · cases hx
    · split at hx
      · split at hx
        · split at hx
          · cases hx; exact ⟨Nat.le_refl _, Grow.refl _ _⟩
          · cases hx
        · cases hx
      · split at hx
        · cases hx
        · exact h _ _ _ _ _ _ hx hl

theorem aExit_ops {id : Nat} : ∀ {k k' : List AItem} {Pr : AItem → Prop}, aExit id k = some k' → (∀ x ∈ k, Pr x) → ∀ x ∈ k', Pr x
  | [], _, _, h, _ => by simp [aExit] at h
  | y :: k, k', Pr, h, hp => by
    have hk : ∀ x ∈ k, Pr x := fun x hx => hp x (List.mem_cons_of_mem _ hx)
    cases y <;> simp only [aExit] at h
    case inBlock id' =>
      split at h
      · cases h; exact hk
      · exact aExit_ops h hk
    all_goals exact aExit_ops h hk

theorem aRun_grow (E : Env) : ∀ (n : Nat) (af : AFunc) (lim : Nat) (k : List AItem) (fr : Nat → Value) (H : Heap) (v : Value) (H' : Heap), (∀ x ∈ k, ∀ b l, x = .ops (some b) l → lim ≤ b) → aRun E n af lim k fr H = some (v, H') → lim ≤ H.length →
    H.length ≤ H'.length ∧ Grow lim H H'
  | 0, _, _, _, _, _, _, _, _, h, _ => by simp [aRun] at h
  | n + 1, af, lim, k, fr, H, v, H', hk, h, hl => by
    have ih := aRun_grow E n
    rw [aRun.eq_def] at h
    simp only at h
    have res : ((result fr H af.results).map (·, H)) = some (v, H') → H.length ≤ H'.length ∧ Grow lim H H' := fun h => by
      simp only [Option.map_eq_some_iff, Prod.mk.injEq] at h
      obtain ⟨_, _, _, rfl⟩ := h
      exact ⟨Nat.le_refl _, Grow.refl _ _⟩
    cases k with
    | nil => exact res h
    | cons x k =>
      have hk' : ∀ x ∈ k, ∀ b l, x = .ops (some b) l → lim ≤ b := fun x hx => hk x (List.mem_cons_of_mem _ hx)
      have add : ∀ {c : AItem}, (∀ b l, c ≠ .ops (some b) l) → ∀ x ∈ c :: k, ∀ b l, x = .ops (some b) l → lim ≤ b := fun {c} hc x hx b l e => by
        rcases List.mem_cons.1 hx with h | h
        · subst h; exact absurd e (hc b l)
        · exact hk' x h b l e
      cases x with
      | inBlock id => exact ih _ _ _ _ _ _ _ hk' h hl
      | inLoop c =>
        refine ih _ _ _ _ _ _ _ (fun x hx b l e => ?_) h hl
        rcases List.mem_cons.1 hx with h | h
        · subst h; cases e
        · exact add (c := .inLoop c) (by simp) x h b l e
      | ops base l =>
        cases l with
        | nil => exact ih _ _ _ _ _ _ _ hk' h hl
        | cons i l =>
          simp only at h
          split at h
          · rename_i fr' H1 hx
            obtain ⟨g1, g2⟩ := insOp_grow (callWith_grow fun af' lim' as H0 v0 H1 h0 hl0 => ih _ _ _ _ _ _ _ (fun x hx b l e => by simp at hx; subst hx; cases e) h0 hl0) hx (fun b e => hk _ List.mem_cons_self b (i :: l) (by rw [e])) hl
            obtain ⟨g3, g4⟩ := ih _ _ _ _ _ _ _ (fun x hx b l' e => by
              rcases List.mem_cons.1 hx with h | h
              · subst h; cases e; exact hk _ List.mem_cons_self b (i :: l) rfl
              · exact hk' x h b l' e) h (by omega)
            exact ⟨by omega, g2.trans g4⟩
          · cases h
      | code c =>
        cases c <;> simp only at h
        case skip => exact ih _ _ _ _ _ _ _ hk' h hl
        case ops l => exact ih _ _ _ _ _ _ _ (add (c := .ops none l) (by simp)) h hl
        case drawn m l =>
          obtain ⟨g1, g2⟩ := ih _ _ _ _ _ _ _ (fun x hx b l' e => by
            rcases List.mem_cons.1 hx with h | h
            · subst h; cases e; exact hl
            · exact hk' x h b l' e) h (by simp; omega)
          exact ⟨by simp at g1; omega, (Grow.dead m).trans g2⟩
        case seq a b =>
          refine ih _ _ _ _ _ _ _ (fun x hx b' l e => ?_) h hl
          rcases List.mem_cons.1 hx with h | h
          · subst h; cases e
          · exact add (c := .code b) (by simp) x h b' l e
        case cond c a b =>
          cases hc : ev fr c <;> rw [hc] at h <;> first
            | (rename_i t; cases t <;> exact ih _ _ _ _ _ _ _ (add (by simp)) h hl)
            | (cases h; done)
        case block id b =>
          refine ih _ _ _ _ _ _ _ (fun x hx b' l e => ?_) h hl
          rcases List.mem_cons.1 hx with h | h
          · subst h; cases e
          · exact add (c := .inBlock id) (by simp) x h b' l e
        case loop b =>
          refine ih _ _ _ _ _ _ _ (fun x hx b' l e => ?_) h hl
          rcases List.mem_cons.1 hx with h | h
          · subst h; cases e
          · exact add (c := .inLoop b) (by simp) x h b' l e
        case exit id =>
          split at h
          · rename_i k' hke
            exact ih _ _ _ _ _ _ _ (aExit_ops hke hk') h hl
          · cases h
        case ret => exact res h
end Go.AM
